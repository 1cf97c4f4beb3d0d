/- What the functions of this law compute, lemma by lemma, up to the law.
Conditions: none. -/
import Derived.Test.YtkdenmdijdmnjaaP1
import Derived.DataShut
import Derived.IntWalk
import Derived.Laws.BitsLemmas
set_option linter.unusedSimpArgs false
set_option linter.unusedVariables false
namespace Go.Proofs.Ytkdenmdijdmnjaa.Am
open Go Go.RowKit

theorem gws_two {G:Gn} (ho:G.old.length≤1000) {p:Int} (h:gwB G p 2=true):∃ x y,gws G p 2 = [x,y]∧gwd G p=some x∧gwd G (p+1)=some y:=by
 have hl:=gws_len h
 have ha:=fun (i:Nat) (hi:i<(gws G p 2).length)=>gws_at ho h hi
 cases e:gws G p 2 with
 | nil=>rw [e] at hl;simp at hl
 | cons x r=>
  cases r with
  | nil=>rw [e] at hl;simp at hl
  | cons y r=>
   cases r with
   | cons z r=>rw [e] at hl;simp at hl;omega
   | nil=>
    refine ⟨x,y,rfl,?_,?_⟩
    ·have:=ha 0 (by rw [e];simp)
     rw [show p+((0:Nat):Int)=p from by omega] at this
     rw [this];simp [e]
    ·have:=ha 1 (by rw [e];simp)
     rw [show p+((1:Nat):Int)=p+1 from by omega] at this
     rw [this];simp [e]
theorem rdL_bad {G:Gn} (ho:G.old.length≤1000) {g:Int→Int→Option (Tm×Int)} {n:Nat} {w c:Int} (h3:w≠3) (h:gwB G (valW w) 2=false∨w<0∨tagW w≠5∨n=0):rdL G g n w c=none:=by
 cases n with
 | zero=>rw [rdL_0,if_neg h3]
 | succ n=>
  rw [rdL_s,if_neg h3]
  by_cases h2:w<0∨tagW w≠5
  ·rw [if_pos h2]
  ·rw [if_neg h2]
   have h:gwB G (valW w) 2=false:=by
    rcases h with h|h|h|h
    ·exact h
    ·exact absurd (.inl h) h2
    ·exact absurd (.inr h) h2
    ·omega
   obtain ⟨i,hi,e⟩:=gws_no ho (by omega) h
   cases e1:gwd G (valW w) with
   | none=>rfl
   | some x=>
    simp only [Option.bind_some]
    cases e2:g x c with
    | none=>rfl
    | some t=>
     simp only [Option.bind_some]
     cases i with
     | zero=>rw [show valW w+((0:Nat):Int)=valW w from by omega,e1] at e;cases e
     | succ i=>
      have:i=0:=by omega
      subst this
      rw [show valW w+((0+1:Nat):Int)=valW w+1 from by omega] at e
      rw [e];rfl
abbrev rdD (base:Nat) (V:Fp) (h0 h:AH) (rb tb zb:Nat) (oa ya:Option Addr) (G:Gn) (aa:Option Addr) (n:Nat) (c:Int) (b:Bool) (tv zv:List Value) (R:List Rs):Prop:=Hs base V h0 h [(rb,181,rdV oa ya G aa n (100-c) b),(tb,42,tv),(zb,42,zv)] R
def ConsP (base rb tb zb f:Nat) (oa ya:Option Addr) (G:Gn) (aa:Option Addr) (ats:List ByteArray) (m:Bool) (S V:Fp) (A:AH→Prop) (h0:AH) (b:Bool) (X:Option (List Tm×Int)) (l:List Tm) (o:Nat×Slots×AH):Prop:=
 ∃ l' a2 c' b' S',l'.length≤20∧((o.1=2∧o.2.1 = [some (.pointer (at0 zb)),some (.pointer (at0 tb))]∧rdD base V h0 o.2.2 rb tb zb oa ya G aa ats.length c' b' (termV 5 0 ⟨#[]⟩ a2 l'.length) (termV 0 0 ⟨#[]⟩ none 0) [⟨S,m,A⟩,rTs base (f+1) S' l' a2]) ∨
  (o.1=1∧o.2.1 = [some (.pointer (at0 zb))]∧rdD base V h0 o.2.2 rb tb zb oa ya G aa ats.length c' b' (termV 5 0 ⟨#[]⟩ a2 l'.length) (termV 5 0 ⟨#[]⟩ a2 l'.length) [⟨S,m,A⟩,rTs base (f+1) S' l' a2]))∧OutL b X l l' c' b'
theorem l6Cons_loop {base rb tb zb f:Nat} {G:Gn} {oa ya aa:Option Addr} {ats:List ByteArray} {m:Bool} {S V:Fp} {A:AH→Prop} {h0:AH} (hG:G.Ok) (ho:G.old.length≤1000) (hf:f≤6) (hA:∀ y,A y→RdA base oa ya G aa ats y) (ih:GetS base oa ya G aa ats f):∀ (r:Nat) (h:AH) (w:Int) (l:List Tm) (ao:Option Addr) (c:Int) (b:Bool) (S2:Fp),wOk w→l.length+r=20→(b=false→0≤c∧c≤100)→rdD base V h0 h rb tb zb oa ya G aa ats.length c b (termV 5 0 ⟨#[]⟩ ao l.length) (termV 0 0 ⟨#[]⟩ none 0) [⟨S,m,A⟩,rTs base (f+1) S2 l ao] →
  Wp (loopL (B197_0 base) [some (.pointer (at0 rb)),some (.int .i64 w),some (.int .i64 ((f:Int)+1)),some (.pointer (at0 zb)),some (.pointer (at0 tb))] h) (ConsP base rb tb zb f oa ya G aa ats m S V A h0 b (rdL G (rdT chkT G ats f) r w c) l):=by
 intro r
 have stop:∀ (h:AH) (w:Int) (l:List Tm) (ao:Option Addr) (c:Int) (b:Bool) (S2:Fp) (X:Option (List Tm×Int)),l.length≤20→rdD base V h0 h rb tb zb oa ya G aa ats.length c b (termV 5 0 ⟨#[]⟩ ao l.length) (termV 0 0 ⟨#[]⟩ none 0) [⟨S,m,A⟩,rTs base (f+1) S2 l ao]→(w=3∨b=true)→OutL b X l l c b→Wp (loopL (B197_0 base) [some (.pointer (at0 rb)),some (.int .i64 w),some (.int .i64 ((f:Int)+1)),some (.pointer (at0 zb)),some (.pointer (at0 tb))] h) (ConsP base rb tb zb f oa ya G aa ats m S V A h0 b X l):=by
  intro h w l ao c b S2 X hl d hc hx
  suffices w1:Wp (B197_0 base [some (.pointer (at0 rb)),some (.int .i64 w),some (.int .i64 ((f:Int)+1)),some (.pointer (at0 zb)),some (.pointer (at0 tb))] h) fun o=>o=(2,[some (.pointer (at0 zb)),some (.pointer (at0 tb))],h) by
   obtain ⟨o,e,rfl⟩:=w1
   exact ⟨_,loop_off (by decide) e,l,ao,c,b,S2,hl,.inl ⟨rfl,rfl,d⟩,hx⟩
  rw [B197_0_eq]
  refine W.joinP (fun q=>q=([some (.pointer (at0 rb)),some (.int .i64 w),some (.int .i64 ((f:Int)+1)),some (.pointer (at0 zb)),some (.pointer (at0 tb)),some (.bool false)],h)) ?_ fun q hq=>?_
  ·((with_reducible repeat first|refine W.a1 d ?_|refine W.bo ?_))
   refine W.ite (fun c1=>?_) (fun c1=>?_)
   ·have c1:b=false:=by simpa using c1
    refine W.bs specMk_run ?_
    ((with_reducible repeat refine W.a2 ?_))
    refine W.inl ?_
    have:w=3:=hc.resolve_right (by rw [c1];decide)
    rw [this,show mkW 3 0=3 from rfl];rfl
   ·exact W.inl rfl
  subst hq
  ((with_reducible repeat refine W.a2 ?_))
  exact W.ifF (by decide) (W.ret rfl)
 have badE:∀ (h:AH) (w:Int) (l:List Tm) (ao:Option Addr) (c:Int) (S2:Fp) (X:Option (List Tm×Int)),wOk w→l.length≤20→rdD base V h0 h rb tb zb oa ya G aa ats.length c false (termV 5 0 ⟨#[]⟩ ao l.length) (termV 0 0 ⟨#[]⟩ none 0) [⟨S,m,A⟩,rTs base (f+1) S2 l ao]→w≠3→(gwB G (valW w) 2=false∨w<0∨tagW w≠5∨l.length=20)→X=none→Wp (loopL (B197_0 base) [some (.pointer (at0 rb)),some (.int .i64 w),some (.int .i64 ((f:Int)+1)),some (.pointer (at0 zb)),some (.pointer (at0 tb))] h) (ConsP base rb tb zb f oa ya G aa ats m S V A h0 false X l):=by
  intro h w l ao c S2 X hw hl d h3 hbad hX
  suffices w1:Wp (B197_0 base [some (.pointer (at0 rb)),some (.int .i64 w),some (.int .i64 ((f:Int)+1)),some (.pointer (at0 zb)),some (.pointer (at0 tb))] h) fun o=>o.1=1∧o.2.1 = [some (.pointer (at0 zb))]∧rdD base V h0 o.2.2 rb tb zb oa ya G aa ats.length c true (termV 5 0 ⟨#[]⟩ ao l.length) (termV 5 0 ⟨#[]⟩ ao l.length) [⟨S,m,A⟩,rTs base (f+1) S2 l ao] by
   obtain ⟨⟨o1,o2,o3⟩,e,y1,y2,y3⟩:=w1
   simp only at y1 y2 y3
   subst y1;subst y2
   exact ⟨_,loop_off (by decide) e,l,ao,c,true,S2,hl,.inr ⟨rfl,rfl,y3⟩,by rw [hX];rfl⟩
  rw [B197_0_eq]
  refine W.joinP (fun q=>q=([some (.pointer (at0 rb)),some (.int .i64 w),some (.int .i64 ((f:Int)+1)),some (.pointer (at0 zb)),some (.pointer (at0 tb)),some (.bool true)],h)) ?_ fun q hq=>?_
  ·((with_reducible repeat first|refine W.a1 d ?_|refine W.bo ?_))
   refine W.ifT (by decide) ?_
   refine W.bs specMk_run ?_
   ((with_reducible repeat refine W.a2 ?_))
   refine W.inl ?_
   rw [show mkW 3 0=3 from rfl]
   have:(w != 3)=true:=by simpa using h3
   rw [this]
  subst hq
  ((with_reducible repeat refine W.a2 ?_))
  refine W.ifT rfl ?_
  ((with_reducible repeat first|refine W.a1 d ?_|refine W.bo ?_))
  refine W.bs (specVal_run hw.2) ?_
  ((with_reducible repeat first|refine W.a2 ?_|refine W.a6 d ?_))
  obtain ⟨a',h2,e2,s2,k2,x2⟩:=l6Words_run (base:=base) (p:=valW w) (n:=2) hG (valW_ok hw) ⟨by omega,by omega⟩ (hA _ (d.rs (i:=0) rfl)).gnO d.ge
  refine W.bs e2 ?_
  have d:rdD base V h0 h2 rb tb zb oa ya G aa ats.length c false (termV 5 0 ⟨#[]⟩ ao l.length) (termV 0 0 ⟨#[]⟩ none 0) [⟨S,m,A⟩,rTs base (f+1) S2 l ao]:=d.kN k2
  ((with_reducible repeat first|refine W.a2 ?_|refine W.a3 ?_))
  apply W.jb true d
  ·refine W.ite (fun c1=>W.lb rfl rfl (KB.refl _ _)) (fun c1=>?_)
   refine W.ite (fun c2=>W.lb rfl rfl (KB.refl _ _)) (fun c2=>?_)
   refine W.bs specTag_run ?_
   ((with_reducible repeat refine W.a2 ?_))
   refine W.ite (fun c3=>W.lb rfl rfl (KB.refl _ _)) (fun c3=>?_)
   ((with_reducible repeat refine W.a1 d ?_))
   refine W.lb rfl ?_ (KB.refl _ _)
   have c1:gwB G (valW w) 2=true:=by simpa using c1
   have c2:¬w<0:=by simpa using c2
   have c3:tagW w=5:=by simpa using c3
   have hl20:l.length=20:=by
    rcases hbad with h|h|h|h
    ·rw [c1] at h;cases h
    ·exact absurd h c2
    ·exact absurd c3 h
    ·exact h
   rw [hl20];rfl
  intro h3' d n3
  ((with_reducible repeat refine W.a2 ?_))
  refine W.ifT rfl ?_
  ((with_reducible repeat first|refine W.a1 d ?_|refine W.bo ?_|refine W.a5 d fun hw d lw kw=>?_))
  exact W.ret ⟨rfl,rfl,d⟩
 induction r with
 | zero=>
  intro h w l ao c b S2 hw hl hcb d
  by_cases hs:w=3∨b=true
  ·refine stop h w l ao c b S2 _ (by omega) d hs ?_
   unfold OutL
   cases b with
   | true=>rfl
   | false=>
    have:w=3:=hs.resolve_right (by decide)
    rw [rdL_0,if_pos this]
    exact ⟨by simp,rfl,rfl⟩
  ·have h3:w≠3:=fun h=>hs (.inl h)
   have hb:b=false:=by
    cases b with
    | true=>exact absurd (.inr rfl) hs
    | false=>rfl
   subst hb
   exact badE h w l ao c S2 _ hw (by omega) d h3 (.inr (.inr (.inr (by omega)))) (by rw [rdL_0,if_neg h3])
 | succ r ihr=>
  intro h w l ao c b S2 hw hl hcb d
  by_cases hs:w=3∨b=true
  ·refine stop h w l ao c b S2 _ (by omega) d hs ?_
   unfold OutL
   cases b with
   | true=>rfl
   | false=>
    have:w=3:=hs.resolve_right (by decide)
    rw [rdL_s,if_pos this]
    exact ⟨by simp,rfl,rfl⟩
  have h3:w≠3:=fun h=>hs (.inl h)
  have hb:b=false:=by
   cases b with
   | true=>exact absurd (.inr rfl) hs
   | false=>rfl
  subst hb
  have hcc:=hcb rfl
  by_cases hbad:gwB G (valW w) 2=false∨w<0∨tagW w≠5
  ·exact badE h w l ao c S2 _ hw (by omega) d h3 (by rcases hbad with h|h|h<;>simp [h]) (rdL_bad ho h3 (by rcases hbad with h|h|h<;>simp [h]))
  have g1:gwB G (valW w) 2=true:=by
   cases e:gwB G (valW w) 2 with
   | true=>rfl
   | false=>exact absurd (.inl e) hbad
  have g2:¬w<0:=fun h=>hbad (.inr (.inl h))
  have g3:tagW w=5:=Classical.byContradiction fun h=>hbad (.inr (.inr h))
  obtain ⟨x,w',ew,ex,ew'⟩:=gws_two ho g1
  have hxk:=(gwd_ok hG ex).1
  have hwk:=(gwd_ok hG ew').1
  suffices w1:Wp (B197_0 base [some (.pointer (at0 rb)),some (.int .i64 w),some (.int .i64 ((f:Int)+1)),some (.pointer (at0 zb)),some (.pointer (at0 tb))] h) fun o=>∃ t a2 c' b' S',o.1=0∧o.2.1 = [some (.pointer (at0 rb)),some (.int .i64 w'),some (.int .i64 ((f:Int)+1)),some (.pointer (at0 zb)),some (.pointer (at0 tb))]∧rdD base V h0 o.2.2 rb tb zb oa ya G aa ats.length c' b' (termV 5 0 ⟨#[]⟩ a2 (l.length+1)) (termV 0 0 ⟨#[]⟩ none 0) [⟨S,m,A⟩,rTs base (f+1) S' (l++[t]) a2]∧OutT false (rdT chkT G ats f x c) t c' b' by
   obtain ⟨⟨o1,o2,h'⟩,e,t,a2,c',b',S',y1,y2,d',hx⟩:=w1
   simp only at y1 y2 d'
   subst y1;subst y2
   have el:(l++[t]).length=l.length+1:=by simp
   have hcb':b'=false→0≤c'∧c'≤100:=by
    intro eb
    cases e2:rdT chkT G ats f x c with
    | none=>simp [OutT,e2] at hx;rw [hx] at eb;cases eb
    | some y=>
     simp only [OutT,e2,Bool.false_eq_true,if_false] at hx
     rw [hx.2.1]
     exact rdT_le f _ c y e2 hcc.1
   obtain ⟨o,eo,l2,a3,c2,b2,S3,z1,z2,z3⟩:=ihr h' w' (l++[t]) a2 c' b' S' hwk (by omega) hcb' (by rw [el];exact d')
   refine ⟨o,loop_on e eo,l2,a3,c2,b2,S3,z1,z2,?_⟩
   rw [rdL_s,if_neg h3,if_neg (by simp [g2,g3]),ex]
   simp only [OutT,OutL,Bool.false_eq_true,if_false,Option.bind_some] at hx z3 ⊢
   cases e2:rdT chkT G ats f x c with
   | none=>
    rw [e2] at hx
    simp only [Option.bind_none] at hx ⊢
    rw [if_pos hx] at z3
    exact z3
   | some y=>
    rw [e2] at hx
    simp only [Option.bind_some] at hx ⊢
    obtain ⟨i1,i2,i3⟩:=hx
    subst i1;subst i2;subst i3
    rw [ew']
    simp only [Bool.false_eq_true,if_false,Option.bind_some] at z3 ⊢
    cases e4:rdL G (rdT chkT G ats f) r w' y.2 with
    | none=>rw [e4] at z3;simpa using z3
    | some u=>
     rw [e4] at z3
     simp only [Option.bind_some]
     obtain ⟨i5,i6,i7⟩:=z3
     exact ⟨by rw [i5];simp,i6,i7⟩
  rw [B197_0_eq]
  refine W.joinP (fun q=>q=([some (.pointer (at0 rb)),some (.int .i64 w),some (.int .i64 ((f:Int)+1)),some (.pointer (at0 zb)),some (.pointer (at0 tb)),some (.bool true)],h)) ?_ fun q hq=>?_
  ·((with_reducible repeat first|refine W.a1 d ?_|refine W.bo ?_))
   refine W.ifT (by decide) ?_
   refine W.bs specMk_run ?_
   ((with_reducible repeat refine W.a2 ?_))
   refine W.inl ?_
   rw [show mkW 3 0=3 from rfl]
   have:(w != 3)=true:=by simpa using h3
   rw [this]
  subst hq
  ((with_reducible repeat refine W.a2 ?_))
  refine W.ifT rfl ?_
  ((with_reducible repeat first|refine W.a1 d ?_|refine W.bo ?_))
  refine W.bs (specVal_run hw.2) ?_
  ((with_reducible repeat first|refine W.a2 ?_|refine W.a6 d ?_))
  obtain ⟨a',h2,e2,s2,k2,x2⟩:=l6Words_run (base:=base) (p:=valW w) (n:=2) hG (valW_ok hw) ⟨by omega,by omega⟩ (hA _ (d.rs (i:=0) rfl)).gnO d.ge
  refine W.bs e2 ?_
  have ea:=x2 g1
  have sA:∀ y,A y→Sl y a' (iv .i64 (gws G (valW w) 2)):=fun y hy=>by rw [ea];exact (hA y hy).gnO.sl g1
  rw [ew] at sA ⊢
  rw [g1]
  have d:rdD base V h0 h2 rb tb zb oa ya G aa ats.length c false (termV 5 0 ⟨#[]⟩ ao l.length) (termV 0 0 ⟨#[]⟩ none 0) [⟨S,m,A⟩,rTs base (f+1) S2 l ao]:=d.kN k2
  ((with_reducible repeat first|refine W.a2 ?_|refine W.a3 ?_))
  apply W.jb false d
  ·refine W.ifF (by decide) (W.ifF (by simpa using g2) ?_)
   refine W.bs specTag_run ?_
   ((with_reducible repeat refine W.a2 ?_))
   refine W.ifF (by simp [g3]) ?_
   ((with_reducible repeat refine W.a1 d ?_))
   refine W.lb rfl ?_ (KB.refl _ _)
   have:¬((l.length:Int)=20):=by omega
   simp [this]
  intro h3' d n3
  ((with_reducible repeat refine W.a2 ?_))
  refine W.ifF (by decide) ?_
  ((with_reducible repeat refine W.a1 d ?_))
  obtain ⟨ad,ea1,g⟩:=(sA _ (d.rs (i:=0) rfl)).int (i:=0) (by simp)
  subst ea1
  refine W.bs rfl (W.bs g ?_)
  rw [w64i (n:=(f:Int)+1-1) (by omega) (by omega),show (f:Int)+1-1=(f:Int) from by omega]
  have d1:=Hs.part (D1:=[_]) (R1:=[_]) d
  refine W.wb (ih rb _ c m S _ A _ _ hxk hcc hA d1) ?_
  rintro ⟨u,h4⟩ ⟨t,cs',S',c',b',y1,d2,hx⟩
  simp only at y1 d2
  subst y1
  have d:=Hs.back (D1:=[_]) (R1:=[_]) d d2 (imA rfl)
  obtain ⟨k1,k2,k3,k4,k5,rfl⟩:=(d.rs (i:=1) rfl:TmG base (f+1) S' h4 t _).form
  clear d1 d2
  ((try simp only [n1,n2,n3,n4,n5,n6] at d);(with_reducible repeat first|refine W.a2 ?_|refine W.a6 d ?_|refine W.a7 ?_);(refine W.nD d fun h6 d _ kh6=>?_))
  obtain ⟨a5,h5,S5,e5,d,_,_,_⟩:=d.app1 (i:=2) (j:=1) (bytes:=56) (TmG.kp _ _) rfl rfl (by decide) (.head _) rfl (by decide) rfl (by omega) (by omega)
  refine W.bs e5 ?_
  ((try simp only [n1,n2,n3,n4,n5,n6] at d);(with_reducible repeat first|refine W.a2 ?_|refine W.a5 d fun hw d lw kw=>?_))
  have d:=((((d.tl).frontR (Del.at (i:=2) rfl)).frontR (Del.at (i:=1) rfl)).takeR 2)
  obtain ⟨ad2,ea2,g'⟩:=(sA _ (d.rs (i:=0) rfl)).int (i:=1) (by simp)
  injection ea2 with ea2
  subst ea2
  refine W.bs g' ?_
  exact W.ret ⟨t,a5,c',b',S5,rfl,rfl,d,hx⟩
theorem l6Cons_run {base rb f:Nat} {G:Gn} {oa ya aa:Option Addr} {ats:List ByteArray} {w c:Int} {m:Bool} {S V:Fp} {A:AH→Prop} {h0 h:AH} (hG:G.Ok) (ho:G.old.length≤1000) (hwk:wOk w) (hf:f≤6) (hc:0≤c∧c≤100) (hA:∀ y,A y→RdA base oa ya G aa ats y) (ih:GetS base oa ya G aa ats f) (d:Hs base V h0 h [(rb,181,rdV oa ya G aa ats.length (100-c) false)] [⟨S,m,A⟩]) :
  Wp (run (Et base) 197 [.pointer (at0 rb),.int .i64 w,.int .i64 ((f:Int)+1)] h) fun o=>∃ t cs' S' c' b',o.1 = .agg cs'.toArray∧Hs base V h0 o.2 [(rb,181,rdV oa ya G aa ats.length (100-c') b')] [⟨S,m,A⟩,⟨S',true,fun y=>TmG base (f+2) S' y t cs'⟩]∧(match rdL G (rdT chkT G ats f) 20 w c with
   | some y=>t = .mk 5 0 ⟨#[]⟩ y.1∧c'=y.2∧b'=false
   | none=>b'=true):=by
 refine W.of (fun r hx=>Am.r197 hx) ?_
 ((refine W.nD d fun h1 d _ kh1=>?_);(refine W.nD d fun h2 d _ kh2=>?_);(with_reducible repeat refine W.a5 d fun hw d lw kw=>?_))
 have d:=d.front (Del.at (i:=2) rfl)
 simp only [n5,n6] at d
 have d:Hs base V h0 hw [(rb,181,rdV oa ya G aa ats.length (100-c) false),(h1.length,42,termV 5 0 ⟨#[]⟩ none 0),(h.length,42,termV 0 0 ⟨#[]⟩ none 0)] [⟨S,m,A⟩]:=d
 have d:=d.call (KB.refl NoB _) (fun _=>False) (fun y=>RowO base 42 4 (TmG base (f+1)) (fun _=>False) y [] none) RowO.nil (fun U y y' k hs x=>x.keep (TmG.kp _ _) k hs) (fun _ h=>h.elim)
 refine W.wb (l6Cons_loop (base:=base) hG ho hf hA ih 20 _ w [] none c false _ hwk (by simp) (fun _=>hc) d) ?_
 rintro ⟨o1,o2,h4⟩ ⟨l',a2,c',b',S',hl,hd,hx⟩
 have fin:∀ {h':AH},Hs base V h0 h' [(rb,181,rdV oa ya G aa ats.length (100-c') b')] [⟨S,m,A⟩,rTs base (f+1) S' l' a2]→∃ t cs' S' c' b',Value.agg (termV 5 0 ⟨#[]⟩ a2 l'.length).toArray = .agg cs'.toArray∧Hs base V h0 h' [(rb,181,rdV oa ya G aa ats.length (100-c') b')] [⟨S,m,A⟩,⟨S',true,fun y=>TmG base (f+2) S' y t cs'⟩]∧(match rdL G (rdT chkT G ats f) 20 w c with
   | some y=>t = .mk 5 0 ⟨#[]⟩ y.1∧c'=y.2∧b'=false
   | none=>b'=true):=by
  intro h' d
  have row:RowO base 42 4 (TmG base (f+1)) S' h' l' a2:=d.rs (i:=1) rfl
  have d:=d.re (r:=rTs base (f+1) S' l' a2) (r':=⟨S',true,fun y=>TmG base (f+2) S' y (.mk 5 0 ⟨#[]⟩ l') (termV 5 0 ⟨#[]⟩ a2 l'.length)⟩) (Upd.at (i:=1) rfl) rfl rfl ⟨by decide,Nat.le_trans hl (by decide),a2,rfl,row⟩ (fun U y y' k hs x=>TmG.kp _ _ _ U y y' _ _ k hs x) (fun b hb=>hb)
  refine ⟨.mk 5 0 ⟨#[]⟩ l',termV 5 0 ⟨#[]⟩ a2 l'.length,S',c',b',rfl,d,?_⟩
  unfold OutL at hx
  simp only [Bool.false_eq_true,if_false] at hx
  cases e1:rdL G (rdT chkT G ats f) 20 w c with
  | none=>rw [e1] at hx;exact hx
  | some y=>
   rw [e1] at hx
   obtain ⟨i1,i2,i3⟩:=hx
   exact ⟨by rw [i1];rfl,i2,i3⟩
 simp only at hd
 rcases hd with ⟨e1,e2,d⟩|⟨e1,e2,d⟩
 ·subst e1;subst e2
  refine W.ifF (show ¬(2:Nat)=1 by decide) (W.ifT rfl ?_)
  ((with_reducible repeat first|refine W.a1 d ?_|refine W.a2 ?_|refine W.a5 d fun hw d lw kw=>?_))
  exact W.ret (fin (d.takeD 1))
 ·subst e1;subst e2
  refine W.ifT rfl ?_
  ((with_reducible repeat first|refine W.a1 d ?_|refine W.a2 ?_))
  exact W.ret (fin (d.takeD 1))
abbrev l5V (aa:Option Addr) (n:Nat) (left:Int) (b:Bool):List Value:=[.slice none 0 0,.slice aa n n,.int .i64 left,.bool b]
def coreL (ats:List ByteArray) (w:Int):Option Tm:=if tagW w=0 then (if valW w≤2000000 then some (.mk 1 (valW w-1000000) ⟨#[]⟩ []) else none) else if tagW w=1 then (ats[(valW w).toNat]?).map fun s=>.mk 2 0 s [] else if tagW w=2 then some (.mk 3 (valW w) ⟨#[]⟩ []) else none
theorem l5Read_leaf {base pb f:Nat} {G:Gn} {oa ya aa:Option Addr} {ats:List ByteArray} {w:Int} {m:Bool} {S V:Fp} {A:AH→Prop} {h0 h:AH} (hs:∀ s∈ats,s.size≤maxLen) (hal:ats.length≤1048576) (hw:wOk w) (h0w:¬w<0) (ht:tagW w≠3∧tagW w≠4∧tagW w≠5∧tagW w≠6) (hA:∀ y,A y→RdA base oa ya G aa ats y) (d:Hs base V h0 h [(pb,213,l5V aa ats.length 1 false)] [⟨S,m,A⟩]) :
  Wp (run (Et base) 200 [.pointer (at0 pb),.int .i64 w,.int .i64 1] h) fun o=>∃ t cs' b',o.1 = .agg cs'.toArray∧Hs base V h0 o.2 [(pb,213,l5V aa ats.length 0 b')] [⟨S,m,A⟩]∧(∀ y,TmG base (f+1) (fun _=>False) y t cs')∧(match coreL ats w with
   | some y=>t=y∧b'=false
   | none=>b'=true):=by
 have vnn:=valW_nn w
 have vle:=valW_le hw
 refine W.of (fun r hx=>Am.r200 hx) ?_
 ((refine W.nD d fun h1 d _ kh1=>?_))
 refine W.bs (specVal_run hw.2) ?_
 ((with_reducible repeat first|refine W.a1 d ?_|refine W.a2 ?_|refine W.bo ?_|refine W.a5 d fun hw d lw kw=>?_))
 rw [show IntKind.i64.wrap ((1:Int)-1)=0 from by decide] at d
 apply W.jb false d
 ·refine W.ifF (by simpa using h0w) (W.ifF (by decide) ?_)
  ((try simp only [n1,n2,n3,n4,n5,n6] at d);(with_reducible repeat first|refine W.a1 d ?_|refine W.bo ?_))
  exact W.lb rfl rfl (KB.refl _ _)
 intro h2 d n2
 ((try simp only [n1,n2,n3,n4,n5,n6] at d);(with_reducible repeat refine W.a2 ?_))
 refine W.ifF (by decide) ?_
 have leafT:∀ (k n:Int) (s:ByteArray),s.size≤maxLen→∀ y,TmG base (f+1) (fun _=>False) y (.mk k n s []) (termV k n s none 0):=fun k n s h y=>⟨h,by decide,none,rfl,RowO.nil⟩
 refine W.joinP (fun q=>q.1 = [some (.pointer (at0 pb)),some (.pointer (at0 h.length))]∧Hs base V h0 q.2 [(h.length,42,termV 0 0 ⟨#[]⟩ none 0),(pb,213,l5V aa ats.length 0 false)] [⟨S,m,A⟩]∧coreL ats w=none) ?_ fun q hq=>?_
 ·refine W.bs specTag_run ?_
  ((with_reducible repeat refine W.a2 ?_))
  refine W.ite (fun t0=>?_) (fun t0=>?_)
  ·have t0:tagW w=0:=by simpa using t0
   have hc:coreL ats w=if valW w≤2000000 then some (.mk 1 (valW w-1000000) ⟨#[]⟩ []) else none:=by unfold coreL;rw [if_pos t0]
   skip
   refine W.joinP (fun q=>q.1 = [some (.pointer (at0 h.length)),some (.int .i64 (valW w))]∧Hs base V h0 q.2 [(h.length,42,termV 0 0 ⟨#[]⟩ none 0),(pb,213,l5V aa ats.length 0 (decide (valW w>2000000)))] [⟨S,m,A⟩]) ?_ fun q hq=>?_
   ·((with_reducible repeat first|refine W.a1 d ?_|refine W.bo ?_))
    refine W.ifF (by decide) ?_
    ((with_reducible repeat first|refine W.bo ?_|refine W.a5 d fun hw d lw kw=>?_))
    exact W.inl ⟨rfl,d⟩
   obtain ⟨q1,h3⟩:=q
   obtain ⟨e,d⟩:=hq
   simp only at e d
   subst e
   ((with_reducible repeat first|refine W.a2 ?_|refine W.a5 d fun hw d lw kw=>?_))
   refine W.mp ?_
   ((try simp only [n1,n2,n3,n4,n5,n6] at d);(with_reducible repeat refine W.a1 d ?_))
   rw [w64i (n:=valW w-1000000) (by omega) (by omega)]
   refine W.ret ⟨.mk 1 (valW w-1000000) ⟨#[]⟩ [],_,_,rfl,d.tl,leafT _ _ _ (by decide),?_⟩
   rw [hc]
   by_cases hv:valW w≤2000000
   ·rw [if_pos hv];exact ⟨rfl,by simp;omega⟩
   ·rw [if_neg hv];simp;omega
  have t0:¬tagW w=0:=by simpa using t0
  refine W.ite (fun t1=>?_) (fun t1=>?_)
  ·have t1:tagW w=1:=by simpa using t1
   have hc:coreL ats w=(ats[(valW w).toNat]?).map fun s=>.mk 2 0 s []:=by unfold coreL;rw [if_neg t0,if_pos t1]
   ((with_reducible repeat first|refine W.a1 d ?_|refine W.bo ?_))
   refine W.ite (fun c1=>?_) (fun c1=>?_)
   ·have c1:valW w<(ats.length:Int):=by simpa using c1
    have hlt:(valW w).toNat<ats.length:=by omega
    ((with_reducible repeat first|refine W.a1 d ?_|refine W.bo ?_|refine W.a8 ?_))
    obtain ⟨ad,ea,g⟩:=(hA _ (d.rs (i:=0) rfl)).2.2.2.2.cell (i:=(valW w).toNat) (v:=.string ats[(valW w).toNat]) (by simp [hlt])
    subst ea
    refine W.bs rfl (W.bT (by rw [Nat.mul_one];exact g) ?_)
    ((with_reducible repeat refine W.a5 d fun hw d lw kw=>?_))
    refine W.mp ?_
    ((try simp only [n1,n2,n3,n4,n5,n6] at d);(with_reducible repeat refine W.a1 d ?_))
    refine W.ret ⟨.mk 2 0 ats[(valW w).toNat] [],_,_,rfl,d.tl,leafT _ _ _ (hs _ (List.getElem_mem _)),?_⟩
    rw [hc,List.getElem?_eq_getElem hlt]
    exact ⟨rfl,rfl⟩
   ·have c1:¬valW w<(ats.length:Int):=by simpa using c1
    refine W.inl ⟨rfl,d,?_⟩
    rw [hc,List.getElem?_eq_none_iff.2 (by omega)]
    rfl
  have t1:¬tagW w=1:=by simpa using t1
  refine W.ite (fun t2=>?_) (fun t2=>?_)
  ·have t2:tagW w=2:=by simpa using t2
   have hc:coreL ats w=some (.mk 3 (valW w) ⟨#[]⟩ []):=by unfold coreL;rw [if_neg t0,if_neg t1,if_pos t2]
   ((with_reducible repeat refine W.a5 d fun hw d lw kw=>?_))
   refine W.mp ?_
   ((try simp only [n1,n2,n3,n4,n5,n6] at d);(with_reducible repeat refine W.a1 d ?_))
   refine W.ret ⟨.mk 3 (valW w) ⟨#[]⟩ [],_,_,rfl,d.tl,leafT _ _ _ (by decide),?_⟩
   rw [hc]
   exact ⟨rfl,rfl⟩
  have t2:¬tagW w=2:=by simpa using t2
  have hc:coreL ats w=none:=by unfold coreL;rw [if_neg t0,if_neg t1,if_neg t2]
  obtain ⟨t3,t4,t5,t6⟩:=ht
  apply W.jb false d
  ·refine W.ifF (by simpa using t3) (W.lb rfl (by simp [t5]) (KB.refl _ _))
  intro h3 d n3
  ((with_reducible repeat refine W.a2 ?_))
  refine W.ifF (by decide) (W.ifF (by simpa using t4) (W.ifF (by simpa using t6) ?_))
  exact W.inl ⟨rfl,d,hc⟩
 obtain ⟨q1,h3⟩:=q
 obtain ⟨e,d,hc⟩:=hq
 simp only at e d
 subst e
 ((with_reducible repeat first|refine W.a1 d ?_|refine W.a2 ?_|refine W.bo ?_|refine W.a5 d fun hw d lw kw=>?_))
 refine W.ret ⟨.mk 0 0 ⟨#[]⟩ [],_,_,rfl,d.tl,leafT _ _ _ (by decide),?_⟩
 rw [hc]
def coreT (G:Gn) (ats:List ByteArray) (f:Nat) (w c:Int):Option (Tm×Int):=
 if tagW w=4 then (core4 G ats f (valW w) (c+1)).bind fun y=>some (Tm.mk 4 0 ⟨#[]⟩ y.1,y.2)
 else if tagW w=6 then ((gwd G (valW w)).bind fun n=>if inB n 0 40=true then (rdB G n.toNat (valW w+1)).bind fun y=>some (Tm.mk 6 0 (bstr y) []) else none).bind fun y=>some (y,c+1)
 else if tagW w=3∨tagW w=5 then (rdL G (rdT chkT G ats f) 20 w (c+1)).bind fun y=>some (Tm.mk 5 0 ⟨#[]⟩ y.1,y.2)
 else (coreL ats w).bind fun y=>some (y,c+1)
theorem rdT_coreT {G:Gn} {ats:List ByteArray} {f:Nat} {w c:Int} (h1:¬w<0) (h2:c<100):rdT chkT G ats (f+1) w c=coreT G ats f w c:=by
 have hl:=tagW_lt w
 rw [rdT,if_neg (by omega)]
 have hb:∀ x:Option (Tm×Int),(x.bind fun y=>if chkT y.1=true then some y else none)=x:=fun x=>by cases x<;>rfl
 rw [hb]
 unfold coreT core4 coreL
 by_cases t0:tagW w=0
 ·rw [if_pos t0,if_neg (show ¬tagW w=4 by omega),if_neg (show ¬tagW w=6 by omega),if_neg (show ¬(tagW w=3∨tagW w=5) by omega),if_pos t0]
  split<;>rfl
 rw [if_neg t0]
 by_cases t1:tagW w=1
 ·rw [if_pos t1,if_neg (by omega),if_neg (by omega),if_neg (by omega),if_neg t0,if_pos t1]
  cases ats[(valW w).toNat]?<;>rfl
 rw [if_neg t1]
 by_cases t2:tagW w=2
 ·rw [if_pos t2,if_neg (by omega),if_neg (by omega),if_neg (by omega),if_neg t0,if_neg t1,if_pos t2]
  rfl
 rw [if_neg t2]
 by_cases t4:tagW w=4
 ·rw [if_pos t4,if_pos t4]
  cases gwd G (valW w) with
  | none=>rfl
  | some n=>
   simp only [Option.bind_some]
   split
   ·rfl
   ·rfl
 rw [if_neg t4,if_neg t4]
 by_cases t6:tagW w=6
 ·rw [if_pos t6,if_pos t6]
  cases gwd G (valW w) with
  | none=>rfl
  | some n=>
   simp only [Option.bind_some]
   split
   ·cases rdB G n.toNat (valW w+1)<;>rfl
   ·rfl
 rw [if_neg t6,if_neg t6]
 by_cases t7:tagW w=7
 ·rw [if_pos t7,if_neg (by omega),if_neg t0,if_neg t1,if_neg t2];rfl
 rw [if_neg t7,if_pos (by omega)]
theorem getS_zero {base:Nat} {oa ya:Option Addr} {G:Gn} {aa:Option Addr} {ats:List ByteArray}:GetS base oa ya G aa ats 0:=by
 intro rb w c m S V A h0 h hwk hc hA d
 refine W.of (fun r hx=>Am.r162 hx) ?_
 ((refine W.nD d fun h1 d _ kh1=>?_);(with_reducible repeat first|refine W.a1 d ?_|refine W.bo ?_|refine W.a5 d fun hw d lw kw=>?_))
 apply W.jb true d
 ·refine W.ite (fun c1=>W.lb rfl rfl (KB.refl _ _)) (fun c1=>?_)
  exact W.ifT (by decide) (W.lb rfl rfl (KB.refl _ _))
 intro h2 d n2
 ((try simp only [n1,n2,n3,n4,n5,n6] at d);(with_reducible repeat refine W.a2 ?_))
 refine W.ifT (by decide) ?_
 ((with_reducible repeat first|refine W.a1 d ?_|refine W.bo ?_|refine W.a5 d fun hw d lw kw=>?_))
 rw [w64i (n:=100-c-1) (by omega) (by omega),show 100-c-1=100-(c+1) from by omega] at d
 have d:=(d.tl).call (KB.refl NoB _) (fun _=>False) (fun y=>TmG base (0+1) (fun _=>False) y tmZ (termV 0 0 ⟨#[]⟩ none 0)) tmZ_G (fun U y y' k hs x=>TmG.kp _ _ _ U y y' _ _ k hs x) (fun _ h=>h.elim)
 exact W.ret ⟨tmZ,termV 0 0 ⟨#[]⟩ none 0,_,_,true,rfl,d,by unfold OutT rdT;rfl⟩
theorem getS_succ {base f:Nat} {oa ya:Option Addr} {G:Gn} {aa:Option Addr} {ats:List ByteArray} (hG:G.Ok) (ho:G.old.length≤1000) (ha:ats.length≤1048576) (hs:∀ s∈ats,s.size≤maxLen) (hf:f≤5) (ih:GetS base oa ya G aa ats f):GetS base oa ya G aa ats (f+1):=by
 intro rb w c m S V A h0 h hwk hc hA d
 have vnn:=valW_nn w
 have tlt:=tagW_lt w
 rw [show ((f+1:Nat):Int)=(f:Int)+1 from by omega]
 refine W.of (fun r hx=>Am.r162 hx) ?_
 ((refine W.nD d fun h1 d _ kh1=>?_);(with_reducible repeat first|refine W.a1 d ?_|refine W.bo ?_|refine W.a5 d fun hw d lw kw=>?_))
 rw [w64i (n:=100-c-1) (by omega) (by omega),show 100-c-1=100-(c+1) from by omega] at d
 apply W.jb (decide (w<0)||decide (100≤c)) d
 ·refine W.ite (fun c1=>?_) (fun c1=>?_)
  ·refine W.lb rfl ?_ (KB.refl _ _)
   rw [c1];rfl
  ·have c1:decide (w<0)=false:=by simpa using c1
   refine W.ifF (by simp;omega) ?_
   ((try simp only [n1,n2,n3,n4,n5,n6] at d);(with_reducible repeat first|refine W.a1 d ?_|refine W.bo ?_))
   refine W.lb rfl ?_ (KB.refl _ _)
   rw [c1]
   simp only [Bool.false_or,List.getLast?_cons_cons,List.getLast?_singleton]
   congr 3
   exact decide_eq_decide.2 (by omega)
 intro h2 d n2
 ((try simp only [n1,n2,n3,n4,n5,n6] at d);(with_reducible repeat refine W.a2 ?_))
 refine W.ite (fun cb=>?_) (fun cb=>?_)
 ·((with_reducible repeat first|refine W.a1 d ?_|refine W.bo ?_|refine W.a5 d fun hw d lw kw=>?_))
  have d:=(d.tl).call (KB.refl NoB _) (fun _=>False) (fun y=>TmG base (f+1+1) (fun _=>False) y tmZ (termV 0 0 ⟨#[]⟩ none 0)) tmZ_G (fun U y y' k hs x=>TmG.kp _ _ _ U y y' _ _ k hs x) (fun _ h=>h.elim)
  refine W.ret ⟨tmZ,termV 0 0 ⟨#[]⟩ none 0,_,_,true,rfl,d,?_⟩
  have cb:w<0∨100≤c:=by simpa using cb
  unfold OutT
  rw [rdT,if_pos cb]
  simp
 have cb:¬w<0∧c<100:=by
  have:decide (w<0)=false∧decide (100≤c)=false:=by simpa using cb
  have h1:=of_decide_eq_false this.1
  have h2:=of_decide_eq_false this.2
  omega
 obtain ⟨h1w,h3w⟩:=cb
 refine W.bs specTag_run ?_
 ((with_reducible repeat refine W.a2 ?_))
 apply W.jb (decide (tagW w=3∨tagW w=5)) d
 ·refine W.ite (fun c1=>?_) (fun c1=>?_)
  ·have c1:tagW w=3:=by simpa using c1
   exact W.lb rfl (by simp [c1]) (KB.refl _ _)
  ·have c1:¬tagW w=3:=by simpa using c1
   refine W.lb rfl ?_ (KB.refl _ _)
   by_cases c5:tagW w=5
   ·simp [c5]
   ·simp [c1,c5]
 intro h3 d n3
 ((with_reducible repeat refine W.a2 ?_))
 have d:=d.front (Del.at (i:=1) rfl)
 simp only [n5,n6] at d
 refine W.ite (fun t3=>?_) (fun t3=>?_)
 ·have t3:tagW w=3∨tagW w=5:=by simpa using t3
  have d1:=Hs.part (D1:=[_]) (R1:=[_]) d
  refine W.wb (l6Cons_run (c:=c+1) hG ho hwk (by omega) (by omega) hA ih d1) ?_
  rintro ⟨u,h4⟩ ⟨t,cs',S',c',b',y1,d2,hx⟩
  simp only at y1 d2
  subst y1
  have d:=Hs.back (D1:=[_]) (R1:=[_]) d d2 (imA rfl)
  obtain ⟨k1,k2,k3,k4,k5,rfl⟩:=(d.rs (i:=1) rfl:TmG base (f+2) S' h4 t _).form
  clear d1 d2
  ((with_reducible repeat first|refine W.a1 d ?_|refine W.a2 ?_|refine W.a5 d fun hw d lw kw=>?_))
  refine W.ret ⟨t,_,S',c',b',rfl,d.takeD 1,?_⟩
  unfold OutT
  rw [if_neg (by decide),rdT_coreT h1w h3w,show coreT G ats f w c=(rdL G (rdT chkT G ats f) 20 w (c+1)).bind fun y=>some (Tm.mk 5 0 ⟨#[]⟩ y.1,y.2) from by unfold coreT;rw [if_neg (by omega),if_neg (by omega),if_pos t3]]
  cases e1:rdL G (rdT chkT G ats f) 20 w (c+1) with
  | none=>rw [e1] at hx;exact hx
  | some y=>rw [e1] at hx;exact hx
 have t3:¬(tagW w=3∨tagW w=5):=by simpa using t3
 refine W.ite (fun t4=>?_) (fun t4=>?_)
 ·have t4:tagW w=4:=by simpa using t4
  refine W.bs (specVal_run hwk.2) ?_
  ((with_reducible repeat refine W.a2 ?_))
  have d1:=Hs.part (D1:=[_]) (R1:=[_]) d
  refine W.wb (l6Tuple_run (c:=c+1) hG ho ⟨vnn,valW_ok hwk⟩ (by omega) (by omega) hA ih d1) ?_
  rintro ⟨u,h4⟩ ⟨t,cs',S',c',b',y1,d2,hx⟩
  simp only at y1 d2
  subst y1
  have d:=Hs.back (D1:=[_]) (R1:=[_]) d d2 (imA rfl)
  obtain ⟨k1,k2,k3,k4,k5,rfl⟩:=(d.rs (i:=1) rfl:TmG base (f+2) S' h4 t _).form
  clear d1 d2
  ((with_reducible repeat first|refine W.a1 d ?_|refine W.a2 ?_|refine W.a5 d fun hw d lw kw=>?_))
  refine W.ret ⟨t,_,S',c',b',rfl,d.takeD 1,?_⟩
  unfold OutT
  rw [if_neg (by decide),rdT_coreT h1w h3w,show coreT G ats f w c=(core4 G ats f (valW w) (c+1)).bind fun y=>some (Tm.mk 4 0 ⟨#[]⟩ y.1,y.2) from by unfold coreT;rw [if_pos t4]]
  cases e1:core4 G ats f (valW w) (c+1) with
  | none=>rw [e1] at hx;exact hx
  | some y=>rw [e1] at hx;exact hx
 have t4:¬tagW w=4:=by simpa using t4
 refine W.ite (fun t6=>?_) (fun t6=>?_)
 ·have t6:tagW w=6:=by simpa using t6
  refine W.bs (specVal_run hwk.2) ?_
  ((with_reducible repeat refine W.a2 ?_))
  have d1:=Hs.part (D1:=[_]) (R1:=[_]) d
  refine W.wb (l6Bin_run (f:=f+1) hG ho ⟨vnn,valW_ok hwk⟩ hA d1) ?_
  rintro ⟨u,h4⟩ ⟨t,cs',S',b',y1,d2,hx⟩
  simp only at y1 d2
  subst y1
  have d:=Hs.back (D1:=[_]) (R1:=[_]) d d2 (imA rfl)
  obtain ⟨k1,k2,k3,k4,k5,rfl⟩:=(d.rs (i:=1) rfl:TmG base (f+2) S' h4 t _).form
  clear d1 d2
  ((with_reducible repeat first|refine W.a1 d ?_|refine W.a2 ?_|refine W.a5 d fun hw d lw kw=>?_))
  refine W.ret ⟨t,_,S',c+1,b',rfl,d.takeD 1,?_⟩
  unfold OutT
  rw [if_neg (by decide),rdT_coreT h1w h3w,show coreT G ats f w c=((gwd G (valW w)).bind fun n=>if inB n 0 40=true then (rdB G n.toNat (valW w+1)).bind fun y=>some (Tm.mk 6 0 (bstr y) []) else none).bind fun y=>some (y,c+1) from by unfold coreT;rw [if_neg t4,if_pos t6]]
  cases e1:(gwd G (valW w)).bind fun n=>if inB n 0 40=true then (rdB G n.toNat (valW w+1)).bind fun y=>some (Tm.mk 6 0 (bstr y) []) else none with
  | none=>rw [e1] at hx;exact hx
  | some y=>rw [e1] at hx;exact ⟨hx.1,rfl,hx.2⟩
 have t6:¬tagW w=6:=by simpa using t6
 ((with_reducible repeat first|refine W.a1 d ?_|refine W.bo ?_);(refine W.nD d fun h4 d _ kh4=>?_))
 have d1:=Hs.part (D1:=[_]) (R1:=[_]) d
 refine W.wb (l5Read_leaf (f:=f+1) hs ha hwk h1w ⟨by omega,by omega,by omega,by omega⟩ hA d1) ?_
 rintro ⟨u,h5⟩ ⟨t,cs',b',y1,d2,tg,hx⟩
 simp only at y1 d2
 subst y1
 have d:=Hs.back (D1:=[_]) (R1:=[_]) d d2 (fun r hr hm=>⟨r,hr,hm,rfl⟩)
 obtain ⟨k1,k2,k3,k4,k5,rfl⟩:=(tg h5).form
 clear d1 d2
 ((with_reducible repeat refine W.a2 ?_);(refine W.nD d fun h6 d _ kh6=>?_);(with_reducible repeat refine W.a5 d fun hw d lw kw=>?_))
 have d:Hs base V h0 hw [(h5.length,42,termV k1 k2 k3 k4 k5),(h3.length,213,l5V aa ats.length 0 b'),(rb,181,rdV oa ya G aa ats.length (100-(c+1)) false),(h.length,42,termV 0 0 ⟨#[]⟩ none 0)] [⟨S,m,A⟩]:=d
 refine W.joinP (fun q=>q.1 = [some (.pointer (at0 h.length)),some (.pointer (at0 h5.length))]∧Hs base V h0 q.2 [(h5.length,42,termV k1 k2 k3 k4 k5),(h3.length,213,l5V aa ats.length 0 b'),(rb,181,rdV oa ya G aa ats.length (100-(c+1)) b'),(h.length,42,termV 0 0 ⟨#[]⟩ none 0)] [⟨S,m,A⟩]) ?_ fun q hq=>?_
 ·((with_reducible repeat first|refine W.a1 d ?_|refine W.bo ?_))
  refine W.ifF (by decide) ?_
  ((with_reducible repeat first|refine W.a1 d ?_|refine W.bo ?_|refine W.a5 d fun hw d lw kw=>?_))
  exact W.inl ⟨rfl,d⟩
 obtain ⟨q1,h7⟩:=q
 obtain ⟨e,d⟩:=hq
 simp only at e d
 subst e
 ((with_reducible repeat first|refine W.a1 d ?_|refine W.a2 ?_|refine W.a5 d fun hw d lw kw=>?_))
 have d:=(((d.tl).tl).takeD 1).call (KB.refl NoB _) (fun _=>False) (fun y=>TmG base (f+2) (fun _=>False) y t (termV k1 k2 k3 k4 k5)) (tg _) (fun U y y' k hs x=>TmG.kp _ _ _ U y y' _ _ k hs x) (fun _ h=>h.elim)
 refine W.ret ⟨t,termV k1 k2 k3 k4 k5,_,c+1,b',rfl,d,?_⟩
 unfold OutT
 rw [if_neg (by decide),rdT_coreT h1w h3w,show coreT G ats f w c=(coreL ats w).bind fun y=>some (y,c+1) from by unfold coreT;rw [if_neg t4,if_neg t6,if_neg t3]]
 cases e1:coreL ats w with
 | none=>rw [e1] at hx;exact hx
 | some y=>rw [e1] at hx;exact ⟨hx.1,rfl,hx.2⟩
theorem getS_all {base:Nat} {oa ya:Option Addr} {G:Gn} {aa:Option Addr} {ats:List ByteArray} (hG:G.Ok) (ho:G.old.length≤1000) (ha:ats.length≤1048576) (hs:∀ s∈ats,s.size≤maxLen):∀ f,f≤6→GetS base oa ya G aa ats f
 | 0,_=>getS_zero
 | f+1,hf=>getS_succ hG ho ha hs (by omega) (getS_all hG ho ha hs f (by omega))
def gRs (G:Gn) (ats:List ByteArray) (w:Int):Tm×Bool:=match rdT chkT G ats 6 w 0 with
 | some y=>if tOk 7 y.1=true then (y.1,true) else (tmZ,false)
 | none=>(tmZ,false)
theorem specGensRead_run {base:Nat} {h:AH} {oa ya:Option Addr} {G:Gn} {aa:Option Addr} {ats:List ByteArray} {w:Int} (hG:G.Ok) (hol:G.old.length≤1000) (ha:ats.length≤1048576) (hs:∀ s∈ats,s.size≤maxLen) (hwk:wOk w) (x:RdA base oa ya G aa ats h) (hb:base≤h.length) :
  ∃ cs' h',run (Et base) 111 [.agg (gensV oa ya G).toArray,.slice aa ats.length ats.length,.int .i64 w] h=some (.tuple #[.agg cs'.toArray,.bool (gRs G ats w).2],h')∧TmG base 7 (iS h.length h'.length) h' (gRs G ats w).1 cs'∧KB NoB h h':=by
 have xlt:=x.lt
 have d:=(Hs.start hb).inp (fun b=>b<h.length) (fun y=>RdA base oa ya G aa ats y) x (fun U y y' k hS q=>q.keep k fun i hi=>hS i (xlt i hi)) (fun b hb=>hb) (fun x hx=>nomatch hx) rfl
 suffices W:Wp (run (Et base) 111 [.agg (gensV oa ya G).toArray,.slice aa ats.length ats.length,.int .i64 w] h) fun o=>∃ cs',o.1 = .tuple #[.agg cs'.toArray,.bool (gRs G ats w).2]∧TmG base 7 (iS h.length o.2.length) o.2 (gRs G ats w).1 cs'∧KB NoB h o.2 by
  obtain ⟨⟨o1,o2⟩,e,cs',y1,y2,y3⟩:=W
  simp only at y1 y2 y3
  subst y1
  exact ⟨cs',o2,e,y2,y3⟩
 refine W.of (fun r hx=>Am.r111 hx) ?_
 ((try simp only [n1,n2,n3,n4,n5,n6] at d);(refine W.nD d fun p1 d _ kp1=>?_);(refine W.nD d fun p2 d _ kp2=>?_);(with_reducible repeat refine W.a1 d ?_);(refine W.nD d fun p3 d _ kp3=>?_))
 have d1:=Hs.part (D1:=[_]) (R1:=[_]) d
 refine W.wb (getS_all (base:=base) hG hol ha hs 6 (Nat.le_refl _) p2.length w 0 _ _ _ _ _ _ hwk (by omega) (fun y hy=>hy) d1) ?_
 rintro ⟨u,h4⟩ ⟨t,cs',S',c',b',y1,d2,ho⟩
 simp only at y1 d2
 subst y1
 have d:=Hs.back (D1:=[_]) (R1:=[_]) d d2 (imA rfl)
 have tg:TmG base 7 S' h4 t _:=d.rs (i:=1) rfl
 obtain ⟨k1,k2,k3,k4,k5,rfl⟩:=tg.form
 clear d1 d2
 ((try simp only [n1,n2,n3,n4,n5,n6] at d);(with_reducible repeat refine W.a2 ?_);(refine W.nD d fun h9 d _ kh9=>?_);(with_reducible repeat refine W.a5 d fun hw d lw kw=>?_))
 apply W.jb (b' || !tOk 7 t) d
 ·((try simp only [n1,n2,n3,n4,n5,n6] at d);(with_reducible repeat refine W.a1 d ?_))
  refine W.ite (fun c=>?_) (fun c=>?_)
  ·rw [c];exact W.lb rfl rfl (KB.refl _ _)
  ·have c:b'=false:=by simpa using c
   rw [c]
   ((with_reducible repeat refine W.a1 d ?_))
   obtain ⟨h5,e5,k5'⟩:=specTermOk_run (base:=base) (d.rs (i:=1) rfl:TmG base 7 S' hw t _).tmR d.ge
   have d:=d.kN k5'
   refine W.bs e5 ?_
   ((with_reducible repeat refine W.a2 ?_))
   exact W.lb rfl rfl k5'
 intro h11 d n11
 ((try simp only [n1,n2,n3,n4,n5,n6] at d);(with_reducible repeat refine W.a2 ?_))
 have hgr:gRs G ats w=if (b' || !tOk 7 t)=true then (tmZ,false) else (t,true):=by
  unfold gRs
  unfold OutT at ho
  rw [if_neg (by decide)] at ho
  cases e1:rdT chkT G ats 6 w 0 with
  | none=>rw [e1] at ho;rw [ho];rfl
  | some y=>
   rw [e1] at ho
   obtain ⟨i1,i2,i3⟩:=ho
   rw [i3,i1]
   simp only [Bool.false_or]
   cases tOk 7 y.1<;>rfl
 refine W.ite (fun c=>?_) (fun c=>?_)
 ·rw [hgr,if_pos c]
  ((with_reducible repeat first|refine W.a1 d ?_|refine W.a5 d fun hw d lw kw=>?_))
  exact W.ret ⟨_,rfl,tmZ_G,d.kb⟩
 ·rw [hgr,if_neg c]
  ((with_reducible repeat first|refine W.a1 d ?_|refine W.a5 d fun hw d lw kw=>?_))
  exact W.ret ⟨_,rfl,d.out (TmG.mo _ _) (i:=1) rfl,d.kb⟩
theorem gRs_gRd (G:Gn) (ats:List ByteArray) (w:Int):gRs G ats w=gRd G ats w:=by
 unfold gRs gRd
 cases e:rdT chkI G ats 6 w 0 with
 | some y=>rw [rdT_T e]
 | none=>
  cases e2:rdT chkT G ats 6 w 0 with
  | none=>rfl
  | some y=>
   simp only
   cases e3:tOk 7 y.1 with
   | false=>rfl
   | true=>rw [rdT_I e2 7 e3] at e;cases e
theorem gRd_ok {G:Gn} {ats:List ByteArray} {w:Int} (h:(gRd G ats w).2=true):∃ y,rdT chkI G ats 6 w 0=some y∧tOk 7 y.1=true:=by
 unfold gRd at h
 cases e:rdT chkI G ats 6 w 0 with
 | none=>rw [e] at h;cases h
 | some y=>
  rw [e] at h
  simp only at h
  cases e3:tOk 7 y.1 with
  | false=>rw [e3] at h;cases h
  | true=>exact ⟨y,rfl,e3⟩
def GmB (base gb:Nat) (oa ya:Option Addr) (G:Gn) (h:AH):Prop:=
 Am.cell h gb 0=some (.slice oa G.old.length G.old.length)∧Am.cell h gb 1=some (.slice ya G.young.length G.young.length)∧Am.cell h gb 2=some (.int .i64 G.mark)∧GnO base h oa ya G
theorem GmB.keepN {base gb:Nat} {oa ya:Option Addr} {G:Gn} {h h':AH} (x:GmB base gb oa ya G h) (k:KB NoB h h'):GmB base gb oa ya G h':=
 ⟨cell_keepU x.1 k (fun h=>h),cell_keepU x.2.1 k (fun h=>h),cell_keepU x.2.2.1 k (fun h=>h),x.2.2.2.keepN k⟩
theorem wordAt_run {base gb:Nat} {h:AH} {G:Gn} {oa ya:Option Addr} {p:Int} (hG:G.Ok) (hp:p≤9223372036854775807) (x:GmB base gb oa ya G h) :
  run (Et base) 154 [.pointer (at0 gb),.int .i64 p] h=some (Value.tuple #[.int .i64 ((gwd G p).getD 0),.bool (gwd G p).isSome],h):=
 implWord_run hG hp x.1 x.2.1 x.2.2.2.2.2
theorem part_run {base gb:Nat} {h:AH} {G:Gn} {oa ya:Option Addr} {p:Int} (hp:wOk p) (x:GmB base gb oa ya G h) :
  run (Et base) 148 [.pointer (at0 gb),.int .i64 p] h=some (.int .i64 (prt G p),h):=by
 refine Am.r148 ?_
 obtain ⟨p1,p2⟩:=hp
 unfold prt
 by_cases c:p<100000
 ·rw [if_pos (decide_eq_true c),if_pos c]
 ·rw [if_neg (by simpa using c),if_neg c]
  rw [w64i (n:=p-100000) (by omega) (by omega)]
  refine bI (by rw [x.2.2.1]) ?_
  by_cases c2:p-100000<G.mark
  ·rw [if_pos (decide_eq_true c2),if_pos c2]
  ·rw [if_neg (by simpa using c2),if_neg c2]
theorem leads_run {base:Nat} {h:AH} {w:Int}:run (Et base) 150 [.int .i64 w] h=some (.bool (leadW w),h):=by
 refine Am.r150 ?_
 rw [implTag_run]
 simp only [Option.bind_some,getI,if_true]
 rw [in_run]
 rfl
def wid (G:Gn) (w:Int):Int:=if tagW w=5 then 2 else (gwd G (valW w)).getD 0+1
theorem widthOf_run {base gb:Nat} {h:AH} {G:Gn} {oa ya:Option Addr} {w:Int} (hG:G.Ok) (hw:wOk w) (hn:tagW w≠5→0≤(gwd G (valW w)).getD 0∧(gwd G (valW w)).getD 0≤1000) (x:GmB base gb oa ya G h) :
  run (Et base) 153 [.pointer (at0 gb),.int .i64 w] h=some (.int .i64 (wid G w),h):=by
 have vle:=valW_le hw
 suffices W:Wp (run (Et base) 153 [.pointer (at0 gb),.int .i64 w] h) fun o=>o=(.int .i64 (wid G w),h) by
  obtain ⟨o,e,rfl⟩:=W
  exact e
 refine W.of (fun r hx=>Am.r153 hx) ?_
 refine W.bs implTag_run (W.bI rfl ?_)
 unfold wid
 refine W.ite (fun c=>?_) (fun c=>?_)
 ·have c:tagW w=5:=by simpa using c
  rw [if_pos c]
  exact W.ret rfl
 ·have c:¬tagW w=5:=by simpa using c
  rw [if_neg c]
  have hn:=hn c
  refine W.bs (implVal_run hw.2) (W.bI rfl ?_)
  refine W.bs (wordAt_run hG (by omega) x) ?_
  refine W.bs rfl (W.bI rfl (W.bB rfl (W.ret ?_)))
  rw [w64i (by omega) (by omega)]
abbrev rIs (base:Nat) (S:Fp) (l:List Int) (a:Option Addr):Rs:=⟨S,true,fun y=>Own base 3 y a (iv .i64 l)⟩
theorem wordsOf_loop {base gb:Nat} {G:Gn} {oa ya:Option Addr} {w:Int} {S V:Fp} {m:Bool} {A:AH→Prop} {h0:AH} (hG:G.Ok) (hw:wOk w) (hn:tagW w≠5→0≤(gwd G (valW w)).getD 0∧(gwd G (valW w)).getD 0≤1000) (hA:∀ y,A y→GmB base gb oa ya G y):∀ (r i:Nat) (h:AH) (l:List Int) (ao:Option Addr) (S2:Fp),(i:Int)+r=wid G w→l.length≤i→(∀ x,blk ao x→S2 x)→Hs base V h0 h [] [⟨S,m,A⟩,rIs base S2 l ao] →
  Wp (loopL (B161_0 base) [some (.pointer (at0 gb)),some (.int .i64 w),some (.int .i64 (valW w)),some (.slice ao l.length l.length),some (.int .i64 (i:Int))] h) fun o=>∃ l' a2 S',o.1=3∧o.2.1 = [some (.slice a2 l'.length l'.length)]∧l'=l++(List.range r).map (fun (k:Nat)=>(gwd G (valW w+(i:Int)+(k:Int))).getD 0)∧Hs base V h0 o.2.2 [] [⟨S,m,A⟩,rIs base S' l' a2]:=by
 have vle:=valW_le hw
 have vnn:=valW_nn w
 have hwd:wid G w≤1001:=by
  unfold wid
  split
  ·omega
  ·rename_i h;have:=hn h;omega
 intro r
 induction r with
 | zero=>
  intro i h l ao S2 hi hl hS d
  suffices w1:Wp (B161_0 base [some (.pointer (at0 gb)),some (.int .i64 w),some (.int .i64 (valW w)),some (.slice ao l.length l.length),some (.int .i64 (i:Int))] h) fun o=>o=(3,[some (.slice ao l.length l.length)],h) by
   obtain ⟨o,e,rfl⟩:=w1
   exact ⟨_,loop_off (by decide) e,l,ao,S2,rfl,rfl,by simp,d⟩
  rw [B161_0_eq]
  refine W.bs (widthOf_run hG hw hn (hA _ (d.rs (i:=0) rfl))) ?_
  ((with_reducible repeat refine W.a2 ?_))
  exact W.ifF (by simp;omega) (W.ret rfl)
 | succ r ihr=>
  intro i h l ao S2 hi hl hS d
  suffices w1:Wp (B161_0 base [some (.pointer (at0 gb)),some (.int .i64 w),some (.int .i64 (valW w)),some (.slice ao l.length l.length),some (.int .i64 (i:Int))] h) fun o=>∃ a2 S',o.1=0∧o.2.1 = [some (.pointer (at0 gb)),some (.int .i64 w),some (.int .i64 (valW w)),some (.slice a2 (l.length+1) (l.length+1)),some (.int .i64 ((i:Int)+1))]∧(∀ x,blk a2 x→S' x)∧Hs base V h0 o.2.2 [] [⟨S,m,A⟩,rIs base S' (l++[(gwd G (valW w+(i:Int))).getD 0]) a2] by
   obtain ⟨⟨o1,o2,h'⟩,e,a2,S',y1,y2,hS',d'⟩:=w1
   simp only at y1 y2 d'
   subst y1;subst y2
   have el:(l++[(gwd G (valW w+(i:Int))).getD 0]).length=l.length+1:=by simp
   have q:=ihr (i+1) h' (l++[(gwd G (valW w+(i:Int))).getD 0]) a2 S' (by omega) (by omega) hS' d'
   rw [el] at q
   obtain ⟨o,eo,l2,a3,S3,z1,z2,z3,z4⟩:=q
   refine ⟨o,loop_on e eo,l2,a3,S3,z1,z2,?_,z4⟩
   rw [z3,List.range_succ_eq_map,List.map_cons,List.map_map,List.append_assoc]
   congr 1
   rw [List.singleton_append]
   congr 1
   ·rw [show valW w+(i:Int)+((0:Nat):Int)=valW w+(i:Int) from by omega]
   ·apply List.map_congr_left
    intro k _
    simp only [Function.comp]
    rw [show valW w+((i+1:Nat):Int)+(k:Int)=valW w+(i:Int)+(k.succ:Int) from by omega]
  rw [B161_0_eq]
  refine W.bs (widthOf_run hG hw hn (hA _ (d.rs (i:=0) rfl))) ?_
  ((with_reducible repeat refine W.a2 ?_))
  refine W.ifT (decide_eq_true (by omega)) ?_
  rw [w64i (n:=valW w+(i:Int)) (by omega) (by omega)]
  refine W.bs (wordAt_run hG (by omega) (hA _ (d.rs (i:=0) rfl))) ?_
  ((with_reducible repeat first|refine W.a2 ?_|refine W.a3 ?_);(refine W.nD d fun h3 d _ kh3=>?_))
  obtain ⟨a5,h5,e5,d,q5,k5,_⟩:=d.app1O (w:=1) (i:=1) (n:=l.length) (bytes:=8) rfl hS (.head _) rfl (by decide) (by simp) rfl (by omega) (by omega)
  refine W.bs e5 ?_
  ((try simp only [n1,n2,n3,n4,n5,n6] at d);(with_reducible repeat refine W.a2 ?_))
  rw [w64i (n:=(i:Int)+1) (by omega) (by omega)]
  have d:=d.tl
  rw [show iv .i64 l++[Value.int .i64 ((gwd G (valW w+(i:Int))).getD 0)]=iv .i64 (l++[(gwd G (valW w+(i:Int))).getD 0]) from by rw [← iv_append];rfl] at d
  exact W.ret ⟨a5,_,rfl,rfl,fun x hx=>hx,d⟩
theorem wordsOf_run {base gb:Nat} {h:AH} {G:Gn} {oa ya:Option Addr} {w:Int} (hG:G.Ok) (hwk:wOk w) (hl:leadW w=true) (hn:Nd G w) (hgb:gb<h.length) (x:GmB base gb oa ya G h) (hb:base≤h.length) :
  ∃ a' h',run (Et base) 161 [.pointer (at0 gb),.int .i64 w] h=some (.slice a' (chW G w).length (chW G w).length,h')∧Sl h' a' (iv .i64 (chW G w))∧KB NoB h h':=by
 have hw4:tagW w=4∨tagW w=5∨tagW w=6:=by
  unfold leadW inB at hl
  simp only [Bool.and_eq_true,decide_eq_true_eq] at hl
  omega
 have hn5:tagW w≠5→0≤(gwd G (valW w)).getD 0∧(gwd G (valW w)).getD 0≤1000:=by
  intro h5
  rcases hw4 with h|h|h
  ·obtain ⟨v,e,a,b,_⟩:=hn.2.1 h;rw [e];exact ⟨a,by simp;omega⟩
  ·exact absurd h h5
  ·obtain ⟨v,e,a,b⟩:=hn.1 h;rw [e];exact ⟨a,by simp;omega⟩
 have xlt:=x.2.2.2.lt
 have d:=(Hs.start hb).inp (fun b=>b<h.length) (fun y=>GmB base gb oa ya G y) x (fun U y y' k hS q=>⟨cell_keepU q.1 k (hS _ hgb),cell_keepU q.2.1 k (hS _ hgb),cell_keepU q.2.2.1 k (hS _ hgb),q.2.2.2.keep k fun i hi=>hS i (xlt i hi)⟩) (fun b hb=>hb) (fun x hx=>nomatch hx) rfl
 suffices W:Wp (run (Et base) 161 [.pointer (at0 gb),.int .i64 w] h) fun o=>∃ a',o.1 = .slice a' (chW G w).length (chW G w).length∧Sl o.2 a' (iv .i64 (chW G w))∧KB NoB h o.2 by
  obtain ⟨⟨o1,o2⟩,e,a',y1,y2,y3⟩:=W
  simp only at y1 y2 y3
  subst y1
  exact ⟨a',o2,e,y2,y3⟩
 refine W.of (fun r hx=>Am.r161 hx) ?_
 refine W.bs (implVal_run hwk.2) ?_
 ((try simp only [n1,n2,n3,n4,n5,n6] at d);(with_reducible repeat refine W.a2 ?_))
 by_cases t6:tagW w=6
 ·have ec:chW G w = []:=by unfold chW;rw [if_neg (by omega),if_neg (by omega)]
  rw [ec]
  refine W.join ?_
  refine W.bs implTag_run ?_
  ((with_reducible repeat refine W.a2 ?_))
  refine W.ifT (by simp [t6]) ?_
  exact W.mp (W.ret ⟨none,rfl,.inl rfl,KB.refl _ _⟩)
 have fin:∀ (i r:Nat),(i:Int)+r=wid G w→chW G w=(List.range r).map (fun (k:Nat)=>(gwd G (valW w+(i:Int)+(k:Int))).getD 0)→Wp ((loopL (B161_0 base) [some (.pointer (at0 gb)),some (.int .i64 w),some (.int .i64 (valW w)),some (.slice none 0 0),some (.int .i64 (i:Int))] h).bind fun q10=>(if q10.1=3 then ((sget q10.2.1 0).bind getS).bind fun l11=>some ((Value.slice l11.1 l11.2 l11.2),q10.2.2) else none)) fun o=>∃ a',o.1 = .slice a' (chW G w).length (chW G w).length∧Sl o.2 a' (iv .i64 (chW G w))∧KB NoB h o.2:=by
  intro i r hi he
  have d:=d.call (KB.refl NoB _) (fun _=>False) (fun y=>Own base 3 y none (iv .i64 [])) (.inl ⟨rfl,rfl⟩) (fun U y y' k hs x=>Own.keep x k fun b hb=>by obtain ⟨_,e,_⟩:=hb;cases e) (fun _ h=>h.elim)
  refine W.wb (wordsOf_loop (base:=base) hG hwk hn5 (fun y hy=>hy) r i h [] none _ hi (by simp) (fun x hx=>by obtain ⟨_,e,_⟩:=hx;cases e) d) ?_
  rintro ⟨o1,o2,h3⟩ ⟨l',a2,S',z1,z2,z3,z4⟩
  simp only at z1 z2 z4
  subst z1;subst z2
  refine W.ifT rfl ?_
  refine W.bS rfl (W.ret ⟨a2,?_,?_,z4.kb⟩)
  ·rw [he,z3];rfl
  ·rw [he]
   have:=Own.sl (z4.rs (i:=1) rfl)
   rw [z3] at this
   simpa using this
 by_cases t5:tagW w=5
 ·refine W.joinP (fun q=>q=([some (.pointer (at0 gb)),some (.int .i64 w),some (.int .i64 (valW w)),some (.int .i64 ((0:Nat):Int))],h)) ?_ fun q hq=>?_
  ·refine W.bs implTag_run ?_
   ((with_reducible repeat refine W.a2 ?_))
   refine W.ifF (by simp [t5]) (W.ifT (by simp [t5]) (W.inl rfl))
  subst hq
  ((with_reducible repeat refine W.a2 ?_))
  refine fin 0 2 (by unfold wid;rw [if_pos t5];rfl) ?_
  unfold chW
  rw [if_pos t5]
  simp only [List.range_succ,List.range_zero,List.nil_append,List.map_append,List.map_cons,List.map_nil,List.cons_append,Int.natCast_zero,Int.add_zero]
  rfl
 ·have t4:tagW w=4:=by omega
  refine W.joinP (fun q=>q=([some (.pointer (at0 gb)),some (.int .i64 w),some (.int .i64 (valW w)),some (.int .i64 ((1:Nat):Int))],h)) ?_ fun q hq=>?_
  ·refine W.bs implTag_run ?_
   ((with_reducible repeat refine W.a2 ?_))
   refine W.ifF (by simp [t4]) (W.ifF (by simp [t4]) (W.inl rfl))
  subst hq
  ((with_reducible repeat refine W.a2 ?_))
  have:=hn5 t5
  refine fin 1 ((gwd G (valW w)).getD 0).toNat (by unfold wid;rw [if_neg t5];omega) ?_
  unfold chW
  rw [if_neg t5,if_pos t4]
  rfl
theorem chW_ok {G:Gn} (hG:G.Ok) {w x:Int} (h:x∈chW G w):wOk x:=by
 unfold chW at h
 split at h
 ·simp only [List.mem_cons,List.not_mem_nil,or_false] at h
  rcases h with rfl|rfl<;>exact gwd_getD hG _
 ·split at h
  ·obtain ⟨i,_,rfl⟩:=List.mem_map.1 h
   exact gwd_getD hG _
  ·cases h
def chkD (G:Gn) (n:Nat) (own:Int) (x:Int):Bool:=!(leadW x&&decide (prt G (valW x)>own))&&dnW G n x
def DnR (base gb:Nat) (oa ya:Option Addr) (G:Gn) (n:Nat):Prop:=∀ (h:AH) (w:Int),wOk w→Fue G n w→gb<h.length→GmB base gb oa ya G h→base≤h.length →
 ∃ h',run (Et base) 109 [.pointer (at0 gb),.int .i64 w] h=some (.bool (dnW G n w),h')∧KB NoB h h'
theorem downward_loop {base gb n:Nat} {G:Gn} {oa ya a':Option Addr} {own:Int} {L:List Int} (hG:G.Ok) (hL:∀ x∈L,wOk x∧Fue G n x) (hLl:L.length≤9223372036854775807) (ih:DnR base gb oa ya G n):∀ (r i:Nat) (h:AH),i+r=L.length→gb<h.length→GmB base gb oa ya G h→Sl h a' (iv .i64 L)→base≤h.length →
  Wp (loopL (B109_0 base) [some (.pointer (at0 gb)),some (.int .i64 own),some (.slice a' L.length L.length),some (.int .i64 (L.length:Int)),some (.int .i64 (i:Int))] h) fun o=>(if (L.drop i).all (chkD G n own)=true then o.1=2 else o.1=1∧o.2.1 = [some (.bool false)])∧KB NoB h o.2.2:=by
 intro r
 induction r with
 | zero=>
  intro i h hi hgb x hs hb
  suffices w1:Wp (B109_0 base [some (.pointer (at0 gb)),some (.int .i64 own),some (.slice a' L.length L.length),some (.int .i64 (L.length:Int)),some (.int .i64 (i:Int))] h) fun o=>o=(2,[],h) by
   obtain ⟨o,e,rfl⟩:=w1
   refine ⟨_,loop_off (by decide) e,?_,KB.refl _ _⟩
   rw [List.drop_of_length_le (by omega)]
   rfl
  rw [B109_0_eq]
  exact W.ifF (by simp;omega) (W.ret rfl)
 | succ r ihr=>
  intro i h hi hgb x hs hb
  have hlt:i<L.length:=by omega
  have hx:=hL L[i] (List.getElem_mem _)
  have ed:L.drop i=L[i] :: L.drop (i+1):=List.drop_eq_getElem_cons hlt
  suffices w1:Wp (B109_0 base [some (.pointer (at0 gb)),some (.int .i64 own),some (.slice a' L.length L.length),some (.int .i64 (L.length:Int)),some (.int .i64 (i:Int))] h) fun o=>(if chkD G n own L[i]=true then o.1=0∧o.2.1 = [some (.pointer (at0 gb)),some (.int .i64 own),some (.slice a' L.length L.length),some (.int .i64 (L.length:Int)),some (.int .i64 ((i:Int)+1))] else o.1=1∧o.2.1 = [some (.bool false)])∧KB NoB h o.2.2 by
   obtain ⟨⟨o1,o2,h'⟩,e,y1,k⟩:=w1
   simp only at y1 k
   cases hc:chkD G n own L[i] with
   | true=>
    rw [hc,if_pos rfl] at y1
    obtain ⟨y1,y2⟩:=y1
    subst y1;subst y2
    obtain ⟨o,eo,z1,z2⟩:=ihr (i+1) h' (by omega) (Nat.lt_of_lt_of_le hgb k.1) (x.keepN k) (hs.keepN k) (Nat.le_trans hb k.1)
    refine ⟨o,loop_on e eo,?_,kN k z2⟩
    rw [ed,List.all_cons,hc,Bool.true_and]
    exact z1
   | false=>
    rw [hc,if_neg (by decide)] at y1
    obtain ⟨y1,y2⟩:=y1
    subst y1;subst y2
    refine ⟨_,loop_off (by decide) e,?_,k⟩
    rw [ed,List.all_cons,hc,Bool.false_and,if_neg (by decide)]
    exact ⟨rfl,rfl⟩
  rw [B109_0_eq]
  refine W.ifT (decide_eq_true (by omega)) (W.ifT (by omega) ?_)
  obtain ⟨ad,rfl,g⟩:=hs.int hlt
  refine W.bs rfl (W.bs (by rw [show Int.toNat (i:Int)*1=i from by simp];exact g) ?_)
  have rr:∃ h',run (Et base) 109 [.pointer (at0 gb),.int .i64 L[i]] h=some (.bool (dnW G n L[i]),h')∧KB NoB h h':=ih h L[i] hx.1 hx.2 hgb x hb
  obtain ⟨h1,e1,k1⟩:=rr
  refine W.joinP (fun q=>q.1 = [some (.pointer (at0 gb)),some (.int .i64 own),some (.slice (some ad) L.length L.length),some (.int .i64 (L.length:Int)),some (.int .i64 (i:Int)),some (.bool (!chkD G n own L[i]))]∧KB NoB h q.2) ?_ fun q hq=>?_
  ·refine W.bs leads_run (W.bB rfl ?_)
   refine W.ite (fun c=>?_) (fun c=>?_)
   ·refine W.bs (implVal_run hx.1.2) (W.bI rfl ?_)
    refine W.bs (part_run (valW_ok hx.1) x) (W.bI rfl ?_)
    refine W.ite (fun c2=>?_) (fun c2=>?_)
    ·refine W.inl ⟨?_,KB.refl _ _⟩
     unfold chkD
     rw [c,c2]
     rfl
    ·have c2:decide (prt G (valW L[i])>own)=false:=by simpa using c2
     refine W.bs e1 (W.bB rfl (W.inl ⟨?_,k1⟩))
     unfold chkD
     rw [c,c2]
     rfl
   ·have c:leadW L[i]=false:=by simpa using c
    refine W.bs e1 (W.bB rfl (W.inl ⟨?_,k1⟩))
    unfold chkD
    rw [c]
    rfl
  obtain ⟨q1,q2⟩:=q
  obtain ⟨e,k⟩:=hq
  simp only at e k
  subst e
  cases hc:chkD G n own L[i] with
  | true=>
   simp only [Bool.not_true]
   refine W.bs rfl (W.bs rfl (W.bs rfl (W.bs rfl (W.bs rfl (W.bs rfl (W.ifF (by decide) (W.ret ⟨?_,k⟩)))))))
   rw [w64i (n:=(i:Int)+1) (by omega) (by omega),if_pos trivial]
   exact ⟨rfl,rfl⟩
  | false=>
   simp only [Bool.not_false]
   refine W.bs rfl (W.bs rfl (W.bs rfl (W.bs rfl (W.bs rfl (W.bs rfl (W.ifT rfl (W.ret ⟨?_,k⟩)))))))
   rw [if_neg (by decide)]
   exact ⟨rfl,rfl⟩
theorem downward_all {base gb:Nat} {G:Gn} {oa ya:Option Addr} (hG:G.Ok):∀ n,DnR base gb oa ya G n
 | 0=>fun h w _ hf=>hf.elim
 | n+1=>by
  intro h w hw hf hgb x hb
  have ih:=downward_all (base:=base) (gb:=gb) (oa:=oa) (ya:=ya) hG n
  suffices W:Wp (run (Et base) 109 [.pointer (at0 gb),.int .i64 w] h) fun o=>o.1 = .bool (dnW G (n+1) w)∧KB NoB h o.2 by
   obtain ⟨⟨o1,o2⟩,e,y1,y2⟩:=W
   simp only at y1 y2
   subst y1
   exact ⟨o2,e,y2⟩
  refine W.of (fun r hx=>Am.r109 hx) ?_
  refine W.bs leads_run (W.bB rfl ?_)
  refine W.ite (fun c=>?_) (fun c=>?_)
  ·have c:leadW w=false:=by simpa using c
   refine W.ret ⟨?_,KB.refl _ _⟩
   rw [dnW,c];rfl
  ·have c:leadW w=true:=by simpa using c
   refine W.bs (implVal_run hw.2) (W.bI rfl ?_)
   refine W.bs (part_run (valW_ok hw) x) (W.bI rfl ?_)
   obtain ⟨a',h1,e1,s1,k1⟩:=wordsOf_run (base:=base) hG hw c hf.1 hgb x hb
   refine W.bs e1 (W.bS rfl ?_)
   have hlen:(chW G w).length≤8:=by
    unfold chW
    split
    ·show 2≤8;decide
    ·split
     ·rename_i t5 t4
      obtain ⟨v,e,a,b,_⟩:=hf.1.2.1 t4
      rw [e];simp;omega
     ·simp
   refine W.wb (downward_loop (base:=base) (own:=prt G (valW w)) (L:=chW G w) hG (fun y hy=>⟨chW_ok hG hy,hf.2 y hy⟩) (by omega) ih (chW G w).length 0 h1 (by omega) (Nat.lt_of_lt_of_le hgb k1.1) (x.keepN k1) s1 (Nat.le_trans hb k1.1)) ?_
   rintro ⟨o1,o2,h2⟩ ⟨y1,k2⟩
   simp only at y1 k2
   rw [List.drop_zero] at y1
   have ed:dnW G (n+1) w=(chW G w).all (chkD G n (prt G (valW w))):=by rw [dnW,c];rfl
   rw [ed]
   cases ha:(chW G w).all (chkD G n (prt G (valW w))) with
   | true=>
    rw [ha,if_pos rfl] at y1
    subst y1
    exact W.ifF (show ¬(2:Nat)=1 by decide) (W.ifT rfl (W.ret ⟨rfl,kN k1 k2⟩))
   | false=>
    rw [ha,if_neg (by decide)] at y1
    obtain ⟨y1,y2⟩:=y1
    subst y1;subst y2
    exact W.ifT rfl (W.bB rfl (W.ret ⟨rfl,kN k1 k2⟩))
theorem szW_lead {G:Gn} {w:Int} (hn:Nd G w):(szW G w==0) = !leadW w:=by
 have hl:=tagW_lt w
 unfold szW leadW inB
 by_cases t5:tagW w=5
 ·rw [if_pos t5,t5];rfl
 rw [if_neg t5]
 by_cases t46:tagW w=4∨tagW w=6
 ·rw [if_pos t46]
  have hs:1≤sz1 G (valW w):=by
   unfold sz1
   rcases t46 with t|t
   ·obtain ⟨v,e,a,b,_⟩:=hn.2.1 t
    rw [e];simp only;rw [if_pos (by unfold inB;simp;omega)];omega
   ·obtain ⟨v,e,a,b⟩:=hn.1 t
    rw [e];simp only;rw [if_pos (by unfold inB;simp;omega)];omega
  have e1:(sz1 G (valW w)==0)=false:=by rw [beq_eq_false_iff_ne];omega
  rw [e1]
  rcases t46 with t|t<;>rw [t]<;>rfl
 ·rw [if_neg t46]
  have:¬(4≤tagW w∧tagW w≤6):=by omega
  have e2:(decide (4≤tagW w)&&decide (tagW w≤6))=false:=by
   simp only [Bool.and_eq_false_iff,decide_eq_false_iff_not];omega
  rw [e2]
  rfl
theorem chW_gws {G:Gn} (ho:G.old.length≤1000) {w:Int} (hn:Nd G w) (h6:tagW w≠6) (hl:leadW w=true):(gws G (valW w) (szW G w)).drop (if tagW w=5 then 0 else 1)=chW G w∧(gws G (valW w) (szW G w)).length≤9∧(if tagW w=5 then 0 else 1)≤(gws G (valW w) (szW G w)).length:=by
 by_cases t5:tagW w=5
 ·obtain ⟨a,b⟩:=hn.2.2 t5
  have es:szW G w=2:=by unfold szW;rw [if_pos t5]
  rw [es,if_pos t5,List.drop_zero]
  have hB:gwB G (valW w) 2=true:=by
   cases h:gwB G (valW w) 2 with
   | true=>rfl
   | false=>
    obtain ⟨i,hi,e⟩:=gws_no ho (by omega) h
    cases i with
    | zero=>rw [show valW w+((0:Nat):Int)=valW w from by omega] at e;rw [e] at a;cases a
    | succ i=>
     have:i=0:=by omega
     subst this
     rw [show valW w+((0+1:Nat):Int)=valW w+1 from by omega] at e
     rw [e] at b;cases b
  obtain ⟨x,y,e,e1,e2⟩:=gws_two ho hB
  rw [e]
  refine ⟨?_,by simp,by simp⟩
  unfold chW
  rw [if_pos t5,e1,e2];rfl
 ·have t4:tagW w=4:=by
   unfold leadW inB at hl
   simp only [Bool.and_eq_true,decide_eq_true_eq] at hl
   omega
  obtain ⟨v,e,a,b,hc⟩:=hn.2.1 t4
  have es:szW G w=v+1:=by
   unfold szW
   rw [if_neg t5,if_pos (.inl t4)]
   unfold sz1
   rw [e];simp only;rw [if_pos (by unfold inB;simp;omega)]
  rw [es,if_neg t5]
  have hB:gwB G (valW w) (v+1)=true:=by
   cases h:gwB G (valW w) (v+1) with
   | true=>rfl
   | false=>
    obtain ⟨i,hi,e2⟩:=gws_no ho (by omega) h
    cases i with
    | zero=>rw [show valW w+((0:Nat):Int)=valW w from by omega,e] at e2;cases e2
    | succ i=>
     have:=hc i (by omega)
     rw [show valW w+1+(i:Int)=valW w+((i+1:Nat):Int) from by omega,e2] at this
     cases this
  have hlen:=gws_len hB
  refine ⟨?_,by omega,by omega⟩
  unfold chW
  rw [if_neg t5,if_pos t4,e]
  apply List.ext_getElem
  ·simp only [List.length_drop,List.length_map,List.length_range,Option.getD_some];omega
  ·intro i h1 h2
   simp only [List.length_drop] at h1
   rw [List.getElem_drop,List.getElem_map,List.getElem_range]
   have:=gws_at ho hB (i:=1+i) (by omega)
   rw [show valW w+1+(i:Int)=valW w+((1+i:Nat):Int) from by omega,this]
   rfl
def LnR (base:Nat) (oa ya:Option Addr) (G:Gn) (n:Nat):Prop:=∀ (h:AH) (w fr:Int),wOk w→Fue G n w→wOk fr→GnO base h oa ya G→base≤h.length →
 ∃ h',run (Et base) 145 [.agg (gensV oa ya G).toArray,.int .i64 w,.int .i64 fr] h=some (.bool (lnW G n w fr),h')∧KB NoB h h'
theorem l6Links_loop {base sb n:Nat} {G:Gn} {oa ya a':Option Addr} {w fr:Int} {L:List Int} {S V:Fp} {m:Bool} {A:AH→Prop} {h0:AH} (hL9:L.length≤9) (hL:∀ i (hi:i<L.length),(if tagW w=5 then 0 else 1)≤i→wOk L[i]∧Fue G n L[i]) (h6:tagW w≠6) (hfr:wOk fr) (hA:∀ y,A y→GnO base y oa ya G∧Sl y a' (iv .i64 L)) (ih:LnR base oa ya G n):∀ (r i:Nat) (h:AH),i+r=L.length→(if tagW w=5 then 0 else 1)≤i→Hs base V h0 h [(sb,63,gensV oa ya G)] [⟨S,m,A⟩] →
  Wp (loopL (B145_0 base) [some (.int .i64 w),some (.int .i64 fr),some (.pointer (at0 sb)),some (.slice a' L.length L.length),some (.int .i64 (i:Int))] h) fun o=>(if (L.drop i).all (fun x=>lnW G n x fr)=true then o.1=2 else o.1=1∧o.2.1 = [some (.bool false)])∧Hs base V h0 o.2.2 [(sb,63,gensV oa ya G)] [⟨S,m,A⟩]:=by
 intro r
 induction r with
 | zero=>
  intro i h hi hf d
  suffices w1:Wp (B145_0 base [some (.int .i64 w),some (.int .i64 fr),some (.pointer (at0 sb)),some (.slice a' L.length L.length),some (.int .i64 (i:Int))] h) fun o=>o=(2,[],h) by
   obtain ⟨o,e,rfl⟩:=w1
   refine ⟨_,loop_off (by decide) e,?_,d⟩
   rw [List.drop_of_length_le (by omega)]
   rfl
  rw [B145_0_eq]
  refine W.join (W.ifF (by simp;omega) (W.il ?_))
  ((with_reducible repeat refine W.a2 ?_))
  exact W.ifF (by decide) (W.ret rfl)
 | succ r ihr=>
  intro i h hi hf d
  have hlt:i<L.length:=by omega
  have hx:=hL i hlt hf
  have ed:L.drop i=L[i] :: L.drop (i+1):=List.drop_eq_getElem_cons hlt
  suffices w1:Wp (B145_0 base [some (.int .i64 w),some (.int .i64 fr),some (.pointer (at0 sb)),some (.slice a' L.length L.length),some (.int .i64 (i:Int))] h) fun o=>(if lnW G n L[i] fr=true then o.1=0∧o.2.1 = [some (.int .i64 w),some (.int .i64 fr),some (.pointer (at0 sb)),some (.slice a' L.length L.length),some (.int .i64 ((i:Int)+1))] else o.1=1∧o.2.1 = [some (.bool false)])∧Hs base V h0 o.2.2 [(sb,63,gensV oa ya G)] [⟨S,m,A⟩] by
   obtain ⟨⟨o1,o2,h'⟩,e,y1,d'⟩:=w1
   simp only at y1 d'
   cases hc:lnW G n L[i] fr with
   | true=>
    rw [hc,if_pos rfl] at y1
    obtain ⟨y1,y2⟩:=y1
    subst y1;subst y2
    obtain ⟨o,eo,z1,z2⟩:=ihr (i+1) h' (by omega) (by omega) d'
    refine ⟨o,loop_on e eo,?_,z2⟩
    rw [ed,List.all_cons,hc,Bool.true_and]
    exact z1
   | false=>
    rw [hc,if_neg (by decide)] at y1
    obtain ⟨y1,y2⟩:=y1
    subst y1;subst y2
    refine ⟨_,loop_off (by decide) e,?_,d'⟩
    rw [ed,List.all_cons,hc,Bool.false_and,if_neg (by decide)]
    exact ⟨rfl,rfl⟩
  rw [B145_0_eq]
  refine W.join (W.ifT (decide_eq_true (by omega)) ?_)
  refine W.bs specTag_run ?_
  ((with_reducible repeat refine W.a2 ?_))
  refine W.il ?_
  ((with_reducible repeat refine W.a2 ?_))
  refine W.ifT (by simpa using h6) ?_
  ((with_reducible repeat first|refine W.a1 d ?_|refine W.a8 ?_))
  obtain ⟨hgn,hsl⟩:=hA _ (d.rs (i:=0) rfl)
  obtain ⟨ad,rfl,g⟩:=hsl.int hlt
  refine W.bs rfl (W.bs (by rw [show Int.toNat (i:Int)*1=i from by simp];exact g) ?_)
  obtain ⟨h1,e1,k1⟩:=ih h L[i] fr hx.1 hx.2 hfr hgn d.ge
  refine W.bs e1 ?_
  have d:=d.kN k1
  ((with_reducible repeat refine W.a2 ?_))
  cases hc:lnW G n L[i] fr with
  | true=>
   refine W.ifF (by decide) (W.ret ⟨?_,d⟩)
   rw [w64i (n:=(i:Int)+1) (by omega) (by omega),if_pos rfl]
   exact ⟨rfl,rfl⟩
  | false=>
   refine W.ifT rfl (W.ret ⟨?_,d⟩)
   rw [if_neg (by decide)]
   exact ⟨rfl,rfl⟩
theorem l6Links_all {base:Nat} {G:Gn} {oa ya:Option Addr} (hG:G.Ok) (ho:G.old.length≤1000) (hm:0≤G.mark∧G.mark≤1000):∀ n,LnR base oa ya G n
 | 0=>fun h w fr _ hf=>hf.elim
 | n+1=>by
  intro h w fr hwk hf hfr x hb
  have ih:=l6Links_all (base:=base) (oa:=oa) (ya:=ya) hG ho hm n
  have d:=x.inp hb
  have vnn:=valW_nn w
  have hsz:=szW_le G w
  suffices W:Wp (run (Et base) 145 [.agg (gensV oa ya G).toArray,.int .i64 w,.int .i64 fr] h) fun o=>o.1 = .bool (lnW G (n+1) w fr)∧KB NoB h o.2 by
   obtain ⟨⟨o1,o2⟩,e,y1,y2⟩:=W
   simp only at y1 y2
   subst y1
   exact ⟨o2,e,y2⟩
  refine W.of (fun r hx=>Am.r145 hx) ?_
  ((refine W.nD d fun h1 d _ kh1=>?_);(with_reducible repeat refine W.a1 d ?_))
  obtain ⟨h2,e2,k2⟩:=l6Size_run (base:=base) hG ho hwk (d.rs (i:=0) rfl:GnO base h1 oa ya G) d.ge
  refine W.bs e2 ?_
  have d:=d.kN k2
  ((with_reducible repeat refine W.a2 ?_))
  rw [szW_lead hf.1]
  refine W.ite (fun c=>?_) (fun c=>?_)
  ·have c:leadW w=false:=by simpa using c
   refine W.ret ⟨?_,d.kb⟩
   rw [lnW,c];rfl
  have c:leadW w=true:=by simpa using c
  refine W.bs (specVal_run hwk.2) ?_
  ((with_reducible repeat refine W.a2 ?_))
  refine W.ite (fun c2=>?_) (fun c2=>?_)
  ·refine W.ret ⟨?_,d.kb⟩
   rw [lnW,c,c2];rfl
  have c2:decide (valW w≥fr)=false:=by simpa using c2
  refine W.joinP (fun q=>q.1 = [some (.int .i64 w),some (.int .i64 (nxt G (valW w) fr)),some (.pointer (at0 h.length)),some (.int .i64 (szW G w)),some (.int .i64 (valW w))]∧q.2=h2) ?_ fun q hq=>?_
  ·refine W.ite (fun c3=>?_) (fun c3=>?_)
   ·have c3:valW w<100000:=by simpa using c3
    refine W.inl ⟨?_,rfl⟩
    unfold nxt;rw [if_pos c3]
   ·have c3:¬valW w<100000:=by simpa using c3
    refine W.joinP (fun q=>q.1 = [some (.int .i64 w),some (.int .i64 fr),some (.pointer (at0 h.length)),some (.int .i64 (szW G w)),some (.int .i64 (valW w)),some (.bool (decide (valW w<100000+G.mark∧fr>100000+G.mark)))]∧q.2=h2) ?_ fun q hq=>?_
    ·((with_reducible repeat refine W.a1 d ?_))
     rw [w64i (n:=100000+G.mark) (by omega) (by omega)]
     refine W.ite (fun c4=>?_) (fun c4=>?_)
     ·have c4:valW w<100000+G.mark:=by simpa using c4
      ((with_reducible repeat refine W.a1 d ?_))
      rw [w64i (n:=100000+G.mark) (by omega) (by omega)]
      refine W.inl ⟨?_,rfl⟩
      simp [c4]
     ·have c4:¬valW w<100000+G.mark:=by simpa using c4
      refine W.inl ⟨?_,rfl⟩
      simp [c4]
    obtain ⟨q1,q2⟩:=q
    obtain ⟨e,eq2⟩:=hq
    simp only at e eq2
    subst e;subst eq2
    ((with_reducible repeat refine W.a2 ?_))
    refine W.ite (fun c5=>?_) (fun c5=>?_)
    ·have c5:valW w<100000+G.mark∧fr>100000+G.mark:=of_decide_eq_true c5
     ((with_reducible repeat refine W.a1 d ?_))
     rw [w64i (n:=100000+G.mark) (by omega) (by omega)]
     refine W.inl ⟨?_,rfl⟩
     unfold nxt;rw [if_neg c3,if_pos c5]
    ·have c5:¬(valW w<100000+G.mark∧fr>100000+G.mark):=fun h=>c5 (decide_eq_true h)
     refine W.inl ⟨?_,rfl⟩
     unfold nxt;rw [if_neg c3,if_neg c5]
  obtain ⟨q1,q2⟩:=q
  obtain ⟨e,eq2⟩:=hq
  simp only at e eq2
  subst e;subst eq2
  ((with_reducible repeat first|refine W.a1 d ?_|refine W.a2 ?_))
  obtain ⟨a',h3,e3,s3,k3,x3⟩:=l6Words_run (base:=base) (p:=valW w) (n:=szW G w) hG (valW_ok hwk) ⟨by omega,by omega⟩ (d.rs (i:=0) rfl:GnO base q2 oa ya G) d.ge
  refine W.bs e3 ?_
  have d:=d.kN k3
  ((with_reducible repeat first|refine W.a2 ?_|refine W.a3 ?_))
  refine W.joinP (fun q=>q=([some (.int .i64 w),some (.int .i64 (nxt G (valW w) fr)),some (.pointer (at0 h.length)),some (.slice a' (gws G (valW w) (szW G w)).length (gws G (valW w) (szW G w)).length),some (.int .i64 (((if tagW w=5 then 0 else 1:Nat)):Int))],h3)) ?_ fun q hq=>?_
  ·refine W.bs specTag_run ?_
   ((with_reducible repeat refine W.a2 ?_))
   refine W.ite (fun t=>?_) (fun t=>?_)
   ·have t:¬tagW w=5:=by simpa using t
    rw [if_neg t];exact W.inl rfl
   ·have t:tagW w=5:=by simpa using t
    rw [if_pos t];exact W.inl rfl
  subst hq
  ((with_reducible repeat refine W.a2 ?_))
  have hfr2:wOk (nxt G (valW w) fr):=by
   unfold nxt
   split
   ·exact ⟨by decide,by decide⟩
   ·split
    ·exact ⟨by omega,by omega⟩
    ·exact hfr
  have eL:lnW G (n+1) w fr=(chW G w).all (fun x=>lnW G n x (nxt G (valW w) fr)):=by
   rw [lnW,c,c2];rfl
  rw [eL]
  by_cases t6:tagW w=6
  ·have ec:chW G w = []:=by unfold chW;rw [if_neg (by omega),if_neg (by omega)]
   rw [ec]
   suffices w1:∀ (i:Nat) (L:List Int),Wp (loopL (B145_0 base) [some (.int .i64 w),some (.int .i64 (nxt G (valW w) fr)),some (.pointer (at0 h.length)),some (.slice a' L.length L.length),some (.int .i64 (i:Int))] h3) fun o=>o=(2,[],h3) by
    refine W.wb (w1 _ _) ?_
    rintro o rfl
    exact W.ifF (show ¬(2:Nat)=1 by decide) (W.ifT rfl (W.ret ⟨rfl,d.kb⟩))
   intro i L
   suffices w2:Wp (B145_0 base [some (.int .i64 w),some (.int .i64 (nxt G (valW w) fr)),some (.pointer (at0 h.length)),some (.slice a' L.length L.length),some (.int .i64 (i:Int))] h3) fun o=>o=(2,[],h3) by
    obtain ⟨o,e,rfl⟩:=w2
    exact ⟨_,loop_off (by decide) e,rfl⟩
   rw [B145_0_eq]
   refine W.joinP (fun q=>q=([some (.int .i64 w),some (.int .i64 (nxt G (valW w) fr)),some (.pointer (at0 h.length)),some (.slice a' L.length L.length),some (.int .i64 (i:Int)),some (.bool false)],h3)) ?_ fun q hq=>?_
   ·refine W.ite (fun _=>?_) (fun _=>W.inl rfl)
    refine W.bs specTag_run ?_
    ((with_reducible repeat refine W.a2 ?_))
    refine W.inl ?_
    rw [t6];rfl
   subst hq
   ((with_reducible repeat refine W.a2 ?_))
   exact W.ifF (by decide) (W.ret rfl)
  ·obtain ⟨ec,hl9,hfi⟩:=chW_gws ho hf.1 t6 c
   have hB:gwB G (valW w) (szW G w)=true∨gws G (valW w) (szW G w) = []:=by
    cases hb2:gwB G (valW w) (szW G w) with
    | true=>exact .inl rfl
    | false=>right;unfold gws;rw [if_neg (by rw [hb2];decide)]
   have hs3:∀ y,GnO base y oa ya G→Sl y a' (iv .i64 (gws G (valW w) (szW G w))):=fun y hy=>by
    rcases hB with hB|hB
    ·rw [x3 hB];exact hy.sl hB
    ·rw [hB];exact .inl rfl
   refine W.wb (l6Links_loop (base:=base) (n:=n) (L:=gws G (valW w) (szW G w)) (w:=w) (A:=fun y=>GnO base y oa ya G) hl9 (fun i hi hfi2=>?_) t6 hfr2 (fun y hy=>⟨hy,hs3 y hy⟩) ih ((gws G (valW w) (szW G w)).length-(if tagW w=5 then 0 else 1)) (if tagW w=5 then 0 else 1) h3 (by omega) (Nat.le_refl _) d) ?_
   ·have hm:(gws G (valW w) (szW G w))[i]∈chW G w:=by
     rw [← ec]
     rw [List.mem_iff_getElem]
     refine ⟨i-(if tagW w=5 then 0 else 1),by rw [List.length_drop];omega,?_⟩
     rw [List.getElem_drop]
     congr 1
     omega
    exact ⟨chW_ok hG hm,hf.2 _ hm⟩
   rintro ⟨o1,o2,h4⟩ ⟨y1,d⟩
   simp only at y1 d
   rw [ec] at y1
   cases ha:(chW G w).all (fun x=>lnW G n x (nxt G (valW w) fr)) with
   | true=>
    rw [ha,if_pos rfl] at y1
    subst y1
    exact W.ifF (show ¬(2:Nat)=1 by decide) (W.ifT rfl (W.ret ⟨rfl,d.kb⟩))
   | false=>
    rw [ha,if_neg (by decide)] at y1
    obtain ⟨y1,y2⟩:=y1
    subst y1;subst y2
    exact W.ifT rfl (W.bB rfl (W.ret ⟨rfl,d.kb⟩))
def stV (l:List ByteArray):List Value:=l.map .string
theorem stV_len (l:List ByteArray):(stV l).length=l.length:=List.length_map _
def aix (s:ByteArray):List ByteArray→Nat→Int
 | [],_=>-1
 | x :: r,i=>if (x.toList==s.toList)=true then (i:Int) else aix s r (i+1)
theorem str_at {h:AH} {a:Option Addr} {l:List ByteArray} (hs:Sl h a (stV l)) {i:Nat} (hi:i<l.length):∃ ad,a=some ad∧Am.cell h ad.block (ad.off+i)=some (.string l[i]):=
 hs.cell (i:=i) (v:=.string l[i]) (by unfold stV;simp [hi])
theorem aix_nn (s:ByteArray):∀ (l:List ByteArray) (k:Nat),decide (aix s l k≥0)=l.any fun x=>x.toList==s.toList
 | [],k=>rfl
 | x :: r,k=>by
  rw [aix,List.any_cons]
  cases hc:(x.toList==s.toList) with
  | true=>rw [if_pos rfl];simp
  | false=>rw [if_neg (by decide),aix_nn s r (k+1),Bool.false_or]
theorem aix_eq (s:ByteArray):∀ (l:List ByteArray) (k i:Nat) (hi:i<l.length),l[i]=s→(aix s l k != ((k+i:Nat):Int))=(l.take i).any fun x=>x.toList==s.toList
 | [],k,i,hi,_=>by simp at hi
 | x :: r,k,0,hi,e=>by
  simp only [List.getElem_cons_zero] at e
  subst e
  rw [aix,if_pos (by simp)]
  simp
 | x :: r,k,i+1,hi,e=>by
  rw [aix,List.take_succ_cons,List.any_cons]
  cases hc:(x.toList==s.toList) with
  | true=>
   rw [if_pos rfl,Bool.true_or,bne_iff_ne]
   omega
  | false=>
   rw [if_neg (by decide),Bool.false_or,← aix_eq s r (k+1) i (by simpa using hi) (by simpa using e)]
   rw [show k+(i+1)=k+1+i from by omega]
theorem aix_le (s:ByteArray):∀ (l:List ByteArray) (k:Nat),-1≤aix s l k∧aix s l k<k+l.length+1
 | [],k=>by unfold aix;simp;omega
 | x :: r,k=>by
  have:=aix_le s r (k+1)
  rw [aix]
  split
  ·simp;omega
  ·simp only [List.length_cons];omega
theorem specAtomAt_run {base:Nat} {h:AH} {l:List ByteArray} {a:Option Addr} {s:ByteArray} (hl:l.length≤9223372036854775807) (hs:Sl h a (stV l)):run (Et base) 185 [.slice a l.length l.length,.string s] h=some (.int .i64 (aix s l 0),h):=by
 have loop:∀ (r i:Nat),i+r=l.length→loopL (B185_0 base) [some (.slice a l.length l.length),some (.string s),some (.int .i64 (i:Int))] h=some (if aix s (l.drop i) i = -1 then (2,[],h) else (1,[some (.int .i64 (aix s (l.drop i) i))],h)):=by
  intro r
  induction r with
  | zero=>
   intro i hi
   rw [List.drop_of_length_le (by omega)]
   refine loop_off (by decide) ?_
   rw [B185_0_eq]
   exact ifF (by simp;omega) rfl
  | succ r ih=>
   intro i hi
   have hlt:i<l.length:=by omega
   obtain ⟨ad,rfl,g⟩:=str_at hs hlt
   rw [List.drop_eq_getElem_cons hlt,aix]
   cases hc:(l[i].toList==s.toList) with
   | true=>
    rw [if_pos rfl,if_neg (by omega)]
    refine loop_off (by decide) ?_
    rw [B185_0_eq]
    refine ifT (decide_eq_true (by omega)) (ifT (by omega) (bs rfl (bT (by rw [show Int.toNat (i:Int)*1=i from by simp];exact g) (ifT hc rfl))))
   | false=>
    simp only [Bool.false_eq_true,if_false]
    refine loop_on ?_ (ih (i+1) (by omega))
    rw [B185_0_eq]
    refine ifT (decide_eq_true (by omega)) (ifT (by omega) (bs rfl (bT (by rw [show Int.toNat (i:Int)*1=i from by simp];exact g) (ifF (by rw [hc];decide) ?_))))
    rw [w64i (by omega) (by omega)]
    rfl
 have e:=loop l.length 0 (by omega)
 rw [show ((0:Nat):Int)=0 from rfl,List.drop_zero] at e
 refine Am.r185 (bs e ?_)
 by_cases c:aix s l 0 = -1
 ·rw [if_pos c]
  exact ifF (show ¬(2:Nat)=1 by decide) (ifT rfl (by rw [c]))
 ·rw [if_neg c]
  exact ifT rfl (bI rfl rfl)
theorem implAtomAt_run {base:Nat} {h:AH} {l:List ByteArray} {a:Option Addr} {s:ByteArray} (hl:l.length≤9223372036854775807) (hs:Sl h a (stV l)):run (Et base) 159 [.slice a l.length l.length,.string s] h=some (.int .i64 (aix s l 0),h):=by
 have loop:∀ (r i:Nat),i+r=l.length→loopL (B159_0 base) [some (.string s),some (.slice a l.length l.length),some (.int .i64 (l.length:Int)),some (.int .i64 (i:Int))] h=some (if aix s (l.drop i) i = -1 then (2,[],h) else (1,[some (.int .i64 (aix s (l.drop i) i))],h)):=by
  intro r
  induction r with
  | zero=>
   intro i hi
   rw [List.drop_of_length_le (by omega)]
   refine loop_off (by decide) ?_
   rw [B159_0_eq]
   exact ifF (by simp;omega) rfl
  | succ r ih=>
   intro i hi
   have hlt:i<l.length:=by omega
   obtain ⟨ad,rfl,g⟩:=str_at hs hlt
   rw [List.drop_eq_getElem_cons hlt,aix]
   cases hc:(l[i].toList==s.toList) with
   | true=>
    rw [if_pos rfl,if_neg (by omega)]
    refine loop_off (by decide) ?_
    rw [B159_0_eq]
    refine ifT (decide_eq_true (by omega)) (ifT (by omega) (bs rfl (bT (by rw [show Int.toNat (i:Int)*1=i from by simp];exact g) (ifT hc rfl))))
   | false=>
    simp only [Bool.false_eq_true,if_false]
    refine loop_on ?_ (ih (i+1) (by omega))
    rw [B159_0_eq]
    refine ifT (decide_eq_true (by omega)) (ifT (by omega) (bs rfl (bT (by rw [show Int.toNat (i:Int)*1=i from by simp];exact g) (ifF (by rw [hc];decide) ?_))))
    rw [w64i (by omega) (by omega)]
    rfl
 have e:=loop l.length 0 (by omega)
 rw [show ((0:Nat):Int)=0 from rfl,List.drop_zero] at e
 refine Am.r159 (bs e ?_)
 by_cases c:aix s l 0 = -1
 ·rw [if_pos c]
  exact ifF (show ¬(2:Nat)=1 by decide) (ifT rfl (by rw [c]))
 ·rw [if_neg c]
  exact ifT rfl (bI rfl rfl)
def atBad (l:List ByteArray) (i:Nat):Bool:=!atomOk (l.getD i ⟨#[]⟩)||(l.take i).any fun x=>x.toList==(l.getD i ⟨#[]⟩).toList
def atAny (l:List ByteArray):Nat→Nat→Bool
 | 0,_=>false
 | r+1,i=>atBad l i||atAny l r (i+1)
def atsOk (l:List ByteArray):Bool:=!atAny l l.length 0&&decide ((l.length:Int)≤200)
theorem l5Atoms_run {base:Nat} {h:AH} {l:List ByteArray} {a:Option Addr} (hl:l.length≤9223372036854775807) (hz:∀ s∈l,s.size≤9223372036854775807) (hs:Sl h a (stV l)):run (Et base) 144 [.slice a l.length l.length] h=some (.bool (atsOk l),h):=by
 have loop:∀ (r i:Nat),i+r=l.length→loopL (B144_0 base) [some (.slice a l.length l.length),some (.int .i64 (i:Int))] h=some (if atAny l r i=true then (1,[some (.bool false)],h) else (2,[some (.slice a l.length l.length)],h)):=by
  intro r
  induction r with
  | zero=>
   intro i hi
   rw [atAny,if_neg (by decide)]
   refine loop_off (by decide) ?_
   rw [B144_0_eq]
   exact ifF (by simp;omega) rfl
  | succ r ih=>
   intro i hi
   have hlt:i<l.length:=by omega
   have eg:l.getD i ⟨#[]⟩=l[i]:=by simp [hlt]
   obtain ⟨ad,rfl,g⟩:=str_at hs hlt
   have step:B144_0 base [some (.slice (some ad) l.length l.length),some (.int .i64 (i:Int))] h=some (if atBad l i=true then (1,[some (.bool false)],h) else (0,[some (.slice (some ad) l.length l.length),some (.int .i64 ((i+1:Nat):Int))],h)):=by
    have e1:IntKind.i64.wrap ((i:Int)+1)=((i+1:Nat):Int):=by rw [w64i (by omega) (by omega)];rfl
    rw [B144_0_eq]
    refine ifT (decide_eq_true (by omega)) ?_
    refine bj (q:=([some (.slice (some ad) l.length l.length),some (.int .i64 (i:Int)),some (.bool (atBad l i))],h)) ?_ ?_
    ·refine ifT (by omega) (bs rfl (bT (by rw [show Int.toNat (i:Int)*1=i from by simp];exact g) ?_))
     refine bs (specAtomOk_run (hz _ (List.getElem_mem _))) (bB rfl ?_)
     unfold atBad
     rw [eg]
     cases hc:atomOk l[i] with
     | false=>exact ifT rfl rfl
     | true=>
      refine ifF (by decide) (ifT (by omega) (bs rfl (bT (by rw [show Int.toNat (i:Int)*1=i from by simp];exact g) ?_)))
      refine bs (specAtomAt_run hl hs) (bI rfl ?_)
      have:=aix_eq l[i] l 0 i hlt rfl
      rw [Nat.zero_add] at this
      rw [this]
      rfl
    ·refine bS rfl (bI rfl (bB rfl ?_))
     cases atBad l i with
     | true=>exact ifT rfl rfl
     | false=>exact ifF (by decide) (by rw [e1];rfl)
   rw [atAny]
   cases hb:atBad l i with
   | true=>
    rw [hb,if_pos rfl] at step
    rw [Bool.true_or,if_pos rfl]
    exact loop_off (by decide) step
   | false=>
    rw [hb,if_neg (by decide)] at step
    rw [Bool.false_or]
    exact loop_on step (ih (i+1) (by omega))
 have e:=loop l.length 0 (by omega)
 rw [show ((0:Nat):Int)=0 from rfl] at e
 refine Am.r144 (bs e ?_)
 unfold atsOk
 cases atAny l l.length 0 with
 | true=>exact ifT rfl (bB rfl rfl)
 | false=>exact ifF (show ¬(2:Nat)=1 by decide) (ifT rfl (bS rfl rfl))
theorem atomsOk_run {base:Nat} {h:AH} {l:List ByteArray} {a:Option Addr} (hl:l.length≤9223372036854775807) (hz:∀ s∈l,s.size≤9223372036854775807) (hty:TyOk base h a 9) (hs:Sl h a (stV l)):run (Et base) 107 [.slice a l.length l.length] h=some (.bool (atsOk l),h):=by
 have loop:∀ (r i:Nat),i+r=l.length→loopL (B107_0 base) [some (.slice a l.length l.length),some (.slice a l.length l.length),some (.int .i64 (l.length:Int)),some (.int .i64 (i:Int))] h=some (if atAny l r i=true then (1,[some (.bool false)],h) else (2,[some (.slice a l.length l.length)],h)):=by
  intro r
  induction r with
  | zero=>
   intro i hi
   rw [atAny,if_neg (by decide)]
   refine loop_off (by decide) ?_
   rw [B107_0_eq]
   exact ifF (by simp;omega) rfl
  | succ r ih=>
   intro i hi
   have hlt:i<l.length:=by omega
   have eg:l.getD i ⟨#[]⟩=l[i]:=by simp [hlt]
   obtain ⟨ad,rfl,g⟩:=str_at hs hlt
   have step:B107_0 base [some (.slice (some ad) l.length l.length),some (.slice (some ad) l.length l.length),some (.int .i64 (l.length:Int)),some (.int .i64 (i:Int))] h=some (if atBad l i=true then (1,[some (.bool false)],h) else (0,[some (.slice (some ad) l.length l.length),some (.slice (some ad) l.length l.length),some (.int .i64 (l.length:Int)),some (.int .i64 ((i+1:Nat):Int))],h)):=by
    have e1:IntKind.i64.wrap ((i:Int)+1)=((i+1:Nat):Int):=by rw [w64i (by omega) (by omega)];rfl
    rw [B107_0_eq]
    refine ifT (decide_eq_true (by omega)) (ifT (by omega) (bs rfl (bT (by rw [show Int.toNat (i:Int)*1=i from by simp];exact g) ?_)))
    refine bj (q:=([some (.slice (some ad) l.length l.length),some (.slice (some ad) l.length l.length),some (.int .i64 (l.length:Int)),some (.int .i64 (i:Int)),some (.bool (atBad l i))],h)) ?_ ?_
    ·refine bs (implAtomOk_run (hz _ (List.getElem_mem _))) (bB rfl ?_)
     unfold atBad
     rw [eg]
     cases hc:atomOk l[i] with
     | false=>exact ifT rfl rfl
     | true=>
      refine ifF (by decide) (ifT ⟨by omega,by omega,by omega,hty.ok _⟩ ?_)
      have hp:Sl h (shiftA (some ad) 0) (stV (l.take i)):=by
       have:=hs.part (n:=0) (m:=i) (by rw [stV_len];omega)
       rw [List.drop_zero] at this
       unfold stV at this ⊢
       rw [List.map_take]
       exact this
      have hlen:(l.take i).length=i:=by rw [List.length_take];omega
      have e2:=implAtomAt_run (base:=base) (l:=l.take i) (s:=l[i]) (by omega) hp
      rw [hlen] at e2
      refine bs e2 (bI rfl ?_)
      rw [aix_nn]
      rfl
    ·refine bS rfl (bS rfl (bI rfl (bI rfl (bB rfl ?_))))
     cases atBad l i with
     | true=>exact ifT rfl rfl
     | false=>exact ifF (by decide) (by rw [e1];rfl)
   rw [atAny]
   cases hb:atBad l i with
   | true=>
    rw [hb,if_pos rfl] at step
    rw [Bool.true_or,if_pos rfl]
    exact loop_off (by decide) step
   | false=>
    rw [hb,if_neg (by decide)] at step
    rw [Bool.false_or]
    exact loop_on step (ih (i+1) (by omega))
 have e:=loop l.length 0 (by omega)
 rw [show ((0:Nat):Int)=0 from rfl] at e
 refine Am.r107 (bs e ?_)
 unfold atsOk
 cases atAny l l.length 0 with
 | true=>exact ifT rfl (bB rfl rfl)
 | false=>exact ifF (show ¬(2:Nat)=1 by decide) (ifT rfl (bS rfl rfl))
def rootOk (G:Gn) (ats:List ByteArray) (w:Int):Bool:=(gRd G ats w).2&&dnW G 133 w
def gHead (G:Gn) (ats:List ByteArray):Bool:=if decide ((G.old.length:Int)>1000)=true then true else if decide ((G.young.length:Int)>1000)=true then true else if (!inB G.mark 0 G.young.length)=true then true else !atsOk ats
def gOk (G:Gn) (ats:List ByteArray) (roots:List Int):Bool:=!gHead G ats&&roots.all (rootOk G ats)
theorem gHead_ok {G:Gn} {ats:List ByteArray} (h:gHead G ats=false):G.old.length≤1000∧G.young.length≤1000∧(0≤G.mark∧G.mark≤G.young.length)∧atsOk ats=true:=by
 unfold gHead at h
 by_cases a:(G.old.length:Int)>1000
 ·rw [if_pos (decide_eq_true a)] at h;cases h
 rw [if_neg (by simpa using a)] at h
 by_cases b:(G.young.length:Int)>1000
 ·rw [if_pos (decide_eq_true b)] at h;cases h
 rw [if_neg (by simpa using b)] at h
 cases c:inB G.mark 0 G.young.length with
 | false=>rw [c] at h;cases h
 | true=>
  rw [c] at h
  have c:0≤G.mark∧G.mark≤G.young.length:=by unfold inB at c;simpa using c
  refine ⟨by omega,by omega,c,?_⟩
  simpa using h
theorem gRd_fue {G:Gn} {ats:List ByteArray} {w:Int} (h:(gRd G ats w).2=true):Fue G 133 w:=by
 obtain ⟨y,e,_⟩:=gRd_ok h
 exact rdT_fue 6 w 0 y e
abbrev gnD (base:Nat) (V:Fp) (h0 h:AH) (sb:Nat) (oa ya:Option Addr) (G:Gn) (S:Fp) (m:Bool) (A:AH→Prop):Prop:=Hs base V h0 h [(sb,63,gensV oa ya G)] [⟨S,m,A⟩]
theorem implGensOk_loop {base sb:Nat} {oa ya aa ra:Option Addr} {G:Gn} {ats:List ByteArray} {roots:List Int} {S V:Fp} {m:Bool} {A:AH→Prop} {h0:AH} (hG:G.Ok) (ha:ats.length≤1048576) (hz:∀ s∈ats,s.size≤maxLen) (hr:∀ w∈roots,wOk w) (hrl:roots.length≤9223372036854775807) (hA:∀ y,A y→RdA base oa ya G aa ats y∧Sl y ra (iv .i64 roots)):∀ (r i:Nat) (h:AH),i+r=roots.length→gnD base V h0 h sb oa ya G S m A →
  Wp (loopL (B50_0 base) [some (.slice aa ats.length ats.length),some (.pointer (at0 sb)),some (.slice ra roots.length roots.length),some (.int .i64 (roots.length:Int)),some (.int .i64 (i:Int))] h) fun o=>(if (roots.drop i).all (rootOk G ats)=true then o.1=2 else o.1=1∧o.2.1 = [some (.bool false)])∧gnD base V h0 o.2.2 sb oa ya G S m A:=by
 intro r
 induction r with
 | zero=>
  intro i h hi d
  suffices w1:Wp (B50_0 base [some (.slice aa ats.length ats.length),some (.pointer (at0 sb)),some (.slice ra roots.length roots.length),some (.int .i64 (roots.length:Int)),some (.int .i64 (i:Int))] h) fun o=>o=(2,[],h) by
   obtain ⟨o,e,rfl⟩:=w1
   refine ⟨_,loop_off (by decide) e,?_,d⟩
   rw [List.drop_of_length_le (by omega)]
   rfl
  rw [B50_0_eq]
  exact W.ifF (by simp;omega) (W.ret rfl)
 | succ r ihr=>
  intro i h hi d
  have hlt:i<roots.length:=by omega
  have hwk:=hr roots[i] (List.getElem_mem _)
  have ed:roots.drop i=roots[i] :: roots.drop (i+1):=List.drop_eq_getElem_cons hlt
  suffices w1:Wp (B50_0 base [some (.slice aa ats.length ats.length),some (.pointer (at0 sb)),some (.slice ra roots.length roots.length),some (.int .i64 (roots.length:Int)),some (.int .i64 (i:Int))] h) fun o=>(if rootOk G ats roots[i]=true then o.1=0∧o.2.1 = [some (.slice aa ats.length ats.length),some (.pointer (at0 sb)),some (.slice ra roots.length roots.length),some (.int .i64 (roots.length:Int)),some (.int .i64 ((i:Int)+1))] else o.1=1∧o.2.1 = [some (.bool false)])∧gnD base V h0 o.2.2 sb oa ya G S m A by
   obtain ⟨⟨o1,o2,h'⟩,e,y1,d'⟩:=w1
   simp only at y1 d'
   cases hc:rootOk G ats roots[i] with
   | true=>
    rw [hc,if_pos rfl] at y1
    obtain ⟨y1,y2⟩:=y1
    subst y1;subst y2
    obtain ⟨o,eo,z1,z2⟩:=ihr (i+1) h' (by omega) d'
    refine ⟨o,loop_on e eo,?_,z2⟩
    rw [ed,List.all_cons,hc,Bool.true_and]
    exact z1
   | false=>
    rw [hc,if_neg (by decide)] at y1
    obtain ⟨y1,y2⟩:=y1
    subst y1;subst y2
    refine ⟨_,loop_off (by decide) e,?_,d'⟩
    rw [ed,List.all_cons,hc,Bool.false_and,if_neg (by decide)]
    exact ⟨rfl,rfl⟩
  rw [B50_0_eq]
  refine W.ifT (decide_eq_true (by omega)) (W.ifT (by omega) ?_)
  obtain ⟨hrd,hrs⟩:=hA _ (d.rs (i:=0) rfl)
  obtain ⟨ad,rfl,g⟩:=hrs.int hlt
  refine W.bs rfl (W.bs (by rw [show Int.toNat (i:Int)*1=i from by simp];exact g) ?_)
  ((with_reducible repeat refine W.a1 d ?_))
  obtain ⟨cs',h1,e1,t1,k1⟩:=implGensRead_run (base:=base) hG ha hz hwk hrd d.ge
  refine W.bs e1 ?_
  obtain ⟨z1,z2,z3,z4,z5,rfl⟩:=t1.form
  have d:=d.kN k1
  ((with_reducible repeat first|refine W.a2 ?_|refine W.a3 ?_);(refine W.nD d fun h2 d _ kh2=>?_);(with_reducible repeat refine W.a5 d fun hw d lw kw=>?_))
  have d:=d.tl
  refine W.joinP (fun q=>q.1 = [some (.slice aa ats.length ats.length),some (.pointer (at0 sb)),some (.slice (some ad) roots.length roots.length),some (.int .i64 (roots.length:Int)),some (.int .i64 (i:Int)),some (.bool (!rootOk G ats roots[i]))]∧gnD base V h0 q.2 sb oa ya G S m A) ?_ fun q hq=>?_
  ·unfold rootOk
   refine W.ite (fun c=>?_) (fun c=>?_)
   ·have c:(gRd G ats roots[i]).2=false:=by simpa using c
    refine W.inl ⟨?_,d⟩
    rw [c];rfl
   ·have c:(gRd G ats roots[i]).2=true:=by simpa using c
    obtain ⟨h3,e3,k3⟩:=downward_all (base:=base) (gb:=sb) hG 133 hw roots[i] hwk (gRd_fue c) (d.lt (.head _)) ⟨d.getI (.head _) rfl,d.getI (.head _) rfl,d.getI (.head _) rfl,(hA _ (d.rs (i:=0) rfl)).1.gnO⟩ d.ge
    refine W.bs e3 ?_
    have d:=d.kN k3
    ((with_reducible repeat refine W.a2 ?_))
    refine W.inl ⟨?_,d⟩
    rw [c];rfl
  obtain ⟨q1,q2⟩:=q
  obtain ⟨e,d⟩:=hq
  simp only at e d
  subst e
  ((with_reducible repeat refine W.a2 ?_))
  cases hc:rootOk G ats roots[i] with
  | true=>
   refine W.ifF (by decide) (W.ret ⟨?_,d⟩)
   rw [w64i (n:=(i:Int)+1) (by omega) (by omega),if_pos rfl]
   exact ⟨rfl,rfl⟩
  | false=>
   refine W.ifT rfl (W.ret ⟨?_,d⟩)
   rw [if_neg (by decide)]
   exact ⟨rfl,rfl⟩
theorem implGensOk_run {base:Nat} {oa ya aa ra:Option Addr} {G:Gn} {ats:List ByteArray} {roots:List Int} {h:AH} (hG:G.Ok) (ha:ats.length≤1048576) (hz:∀ s∈ats,s.size≤maxLen) (hr:∀ w∈roots,wOk w) (hrl:roots.length≤9223372036854775807) (x:RdA base oa ya G aa ats h) (xr:Sl h ra (iv .i64 roots)) (xt:TyOk base h ra 3) (hb:base≤h.length) :
  ∃ h',run (Et base) 50 [.agg (gensV oa ya G).toArray,.slice aa ats.length ats.length,.slice ra roots.length roots.length] h=some (.bool (gOk G ats roots),h')∧KB NoB h h':=by
 have xlt:=x.lt
 have d:=(Hs.start hb).inp (fun b=>b<h.length) (fun y=>RdA base oa ya G aa ats y∧Sl y ra (iv .i64 roots)) ⟨x,xr⟩ (fun U y y' k hS q=>⟨q.1.keep k fun i hi=>hS i (xlt i hi),q.2.keep k fun i hi=>hS i (xt.lt i hi)⟩) (fun b hb=>hb) (fun x hx=>nomatch hx) rfl
 suffices W:Wp (run (Et base) 50 [.agg (gensV oa ya G).toArray,.slice aa ats.length ats.length,.slice ra roots.length roots.length] h) fun o=>o.1 = .bool (gOk G ats roots)∧KB NoB h o.2 by
  obtain ⟨⟨o1,o2⟩,e,y1,y2⟩:=W
  simp only at y1 y2
  subst y1
  exact ⟨o2,e,y2⟩
 refine W.of (fun r hx=>Am.r50 hx) ?_
 ((try simp only [n1,n2,n3,n4,n5,n6] at d);(refine W.nD d fun h1 d _ kh1=>?_))
 apply W.jb (gHead G ats) d
 ·unfold gHead
  ((with_reducible repeat refine W.a1 d ?_))
  refine W.ite (fun c=>?_) (fun c=>?_)
  ·rw [if_pos c];exact W.lb rfl rfl (KB.refl _ _)
  rw [if_neg c]
  ((with_reducible repeat refine W.a1 d ?_))
  refine W.ite (fun c=>?_) (fun c=>?_)
  ·rw [if_pos c];exact W.lb rfl rfl (KB.refl _ _)
  rw [if_neg c]
  ((with_reducible repeat refine W.a1 d ?_))
  refine W.bs in_run ?_
  ((with_reducible repeat refine W.a2 ?_))
  refine W.ite (fun c=>?_) (fun c=>?_)
  ·rw [if_pos c];exact W.lb rfl rfl (KB.refl _ _)
  rw [if_neg c]
  have hx:=(d.rs (i:=0) rfl:RdA base oa ya G aa ats h1∧Sl h1 ra (iv .i64 roots)).1
  refine W.bs (atomsOk_run (by omega) (fun s hs=>by have:=hz s hs;unfold maxLen at this;omega) hx.2.2.1 hx.2.2.2.2) ?_
  ((with_reducible repeat refine W.a2 ?_))
  exact W.lb rfl rfl (KB.refl _ _)
 intro h2 d n2
 ((with_reducible repeat refine W.a2 ?_))
 unfold gOk
 refine W.ite (fun c=>?_) (fun c=>?_)
 ·rw [c]
  exact W.ret ⟨rfl,d.kb⟩
 ·have c:gHead G ats=false:=by simpa using c
  rw [c,Bool.not_false,Bool.true_and]
  refine W.wb (implGensOk_loop (base:=base) (roots:=roots) (A:=fun y=>RdA base oa ya G aa ats y∧Sl y ra (iv .i64 roots)) hG ha hz hr hrl (fun y hy=>hy) roots.length 0 h2 (by omega) d) ?_
  rintro ⟨o1,o2,h4⟩ ⟨y1,d⟩
  simp only at y1 d
  rw [List.drop_zero] at y1
  cases hc:roots.all (rootOk G ats) with
  | true=>
   rw [hc,if_pos rfl] at y1
   subst y1
   exact W.ifF (show ¬(2:Nat)=1 by decide) (W.ifT rfl (W.ret ⟨rfl,d.kb⟩))
  | false=>
   rw [hc,if_neg (by decide)] at y1
   obtain ⟨y1,y2⟩:=y1
   subst y1;subst y2
   exact W.ifT rfl (W.bB rfl (W.ret ⟨rfl,d.kb⟩))
theorem specGensOk_loop {base sb:Nat} {oa ya aa ra:Option Addr} {G:Gn} {ats:List ByteArray} {roots:List Int} {S V:Fp} {m:Bool} {A:AH→Prop} {h0:AH} (hG:G.Ok) (hh:gHead G ats=false) (ha:ats.length≤1048576) (hz:∀ s∈ats,s.size≤maxLen) (hr:∀ w∈roots,wOk w) (hrl:roots.length≤9223372036854775807) (hA:∀ y,A y→RdA base oa ya G aa ats y∧Sl y ra (iv .i64 roots)):∀ (r i:Nat) (h:AH),i+r=roots.length→gnD base V h0 h sb oa ya G S m A →
  Wp (loopL (B95_0 base) [some (.slice aa ats.length ats.length),some (.slice ra roots.length roots.length),some (.pointer (at0 sb)),some (.int .i64 (i:Int))] h) fun o=>(if (roots.drop i).all (rootOk G ats)=true then o.1=2 else o.1=1∧o.2.1 = [some (.bool false)])∧gnD base V h0 o.2.2 sb oa ya G S m A:=by
 obtain ⟨b1,b2,b3,b4⟩:=gHead_ok hh
 intro r
 induction r with
 | zero=>
  intro i h hi d
  suffices w1:Wp (B95_0 base [some (.slice aa ats.length ats.length),some (.slice ra roots.length roots.length),some (.pointer (at0 sb)),some (.int .i64 (i:Int))] h) fun o=>o=(2,[],h) by
   obtain ⟨o,e,rfl⟩:=w1
   refine ⟨_,loop_off (by decide) e,?_,d⟩
   rw [List.drop_of_length_le (by omega)]
   rfl
  rw [B95_0_eq]
  exact W.ifF (by simp;omega) (W.ret rfl)
 | succ r ihr=>
  intro i h hi d
  have hlt:i<roots.length:=by omega
  have hwk:=hr roots[i] (List.getElem_mem _)
  have ed:roots.drop i=roots[i] :: roots.drop (i+1):=List.drop_eq_getElem_cons hlt
  suffices w1:Wp (B95_0 base [some (.slice aa ats.length ats.length),some (.slice ra roots.length roots.length),some (.pointer (at0 sb)),some (.int .i64 (i:Int))] h) fun o=>(if rootOk G ats roots[i]=true then o.1=0∧o.2.1 = [some (.slice aa ats.length ats.length),some (.slice ra roots.length roots.length),some (.pointer (at0 sb)),some (.int .i64 ((i:Int)+1))] else o.1=1∧o.2.1 = [some (.bool false)])∧gnD base V h0 o.2.2 sb oa ya G S m A by
   obtain ⟨⟨o1,o2,h'⟩,e,y1,d'⟩:=w1
   simp only at y1 d'
   cases hc:rootOk G ats roots[i] with
   | true=>
    rw [hc,if_pos rfl] at y1
    obtain ⟨y1,y2⟩:=y1
    subst y1;subst y2
    obtain ⟨o,eo,z1,z2⟩:=ihr (i+1) h' (by omega) d'
    refine ⟨o,loop_on e eo,?_,z2⟩
    rw [ed,List.all_cons,hc,Bool.true_and]
    exact z1
   | false=>
    rw [hc,if_neg (by decide)] at y1
    obtain ⟨y1,y2⟩:=y1
    subst y1;subst y2
    refine ⟨_,loop_off (by decide) e,?_,d'⟩
    rw [ed,List.all_cons,hc,Bool.false_and,if_neg (by decide)]
    exact ⟨rfl,rfl⟩
  rw [B95_0_eq]
  refine W.ifT (decide_eq_true (by omega)) ?_
  ((with_reducible repeat first|refine W.a1 d ?_|refine W.a8 ?_))
  obtain ⟨hrd,hrs⟩:=hA _ (d.rs (i:=0) rfl)
  obtain ⟨ad,rfl,g⟩:=hrs.int hlt
  refine W.bs rfl (W.bs (by rw [show Int.toNat (i:Int)*1=i from by simp];exact g) ?_)
  obtain ⟨cs',h1,e1,t1,k1⟩:=specGensRead_run (base:=base) hG b1 ha hz hwk hrd d.ge
  refine W.bs e1 ?_
  obtain ⟨z1,z2,z3,z4,z5,rfl⟩:=t1.form
  have d:=d.kN k1
  obtain ⟨ad0,e0,gc⟩:=(hA _ (d.rs (i:=0) rfl)).2.cell (i:=i) (v:=.int .i64 roots[i]) (by simp [iv,hlt])
  injection e0 with e0
  subst e0
  have hlt1:=cell_lt gc
  ((with_reducible repeat first|refine W.a2 ?_|refine W.a3 ?_))
  refine W.gt (fun a e=>by injection e with e;subst e;exact Nat.ne_of_lt hlt1) ?_
  ((with_reducible repeat refine W.a7 ?_);(refine W.nD d fun h2 d _ kh2=>?_);(with_reducible repeat refine W.a5 d fun hw d lw kw=>?_))
  have d:=d.tl
  have eD:(gRd G ats roots[i]).2=true→lnW G 133 roots[i] 200000=dnW G 133 roots[i]:=fun c=>by
   have:=lnW_dnW hG b2 b3 133 roots[i] 2 (gRd_fue c) (by omega)
   rw [show frm G 2=200000 from rfl] at this
   rw [this]
   have hp:=(prt_le G (valW roots[i])).2
   have:decide (prt G (valW roots[i])>2)=false:=by simp;omega
   rw [this,Bool.and_false];rfl
  refine W.joinP (fun q=>q.1 = [some (.slice aa ats.length ats.length),some (.slice (some ad) roots.length roots.length),some (.pointer (at0 sb)),some (.int .i64 (i:Int)),some (.bool (!rootOk G ats roots[i]))]∧gnD base V h0 q.2 sb oa ya G S m A) ?_ fun q hq=>?_
  ·unfold rootOk
   rw [← gRs_gRd]
   refine W.ite (fun c=>?_) (fun c=>?_)
   ·have c:(gRs G ats roots[i]).2=false:=by simpa using c
    refine W.inl ⟨?_,d⟩
    rw [c];rfl
   ·have c:(gRs G ats roots[i]).2=true:=by simpa using c
    have c':(gRd G ats roots[i]).2=true:=by rw [← gRs_gRd];exact c
    ((with_reducible repeat first|refine W.a1 d ?_|refine W.bo ?_|refine W.a8 ?_))
    obtain ⟨hrd2,hrs2⟩:=hA _ (d.rs (i:=0) rfl)
    obtain ⟨ad2,e2,g2⟩:=hrs2.int hlt
    injection e2 with e2
    subst e2
    refine W.bs (by rw [show Int.toNat (i:Int)*1=i from by simp];exact g2) ?_
    obtain ⟨h3,e3,k3⟩:=l6Links_all (base:=base) hG b1 ⟨b3.1,by omega⟩ 133 hw roots[i] 200000 hwk (gRd_fue c') ⟨by decide,by decide⟩ hrd2.gnO d.ge
    refine W.bs e3 ?_
    have d:=d.kN k3
    ((with_reducible repeat refine W.a2 ?_))
    refine W.inl ⟨?_,d⟩
    rw [c,eD c'];rfl
  obtain ⟨q1,q2⟩:=q
  obtain ⟨e,d⟩:=hq
  simp only at e d
  subst e
  ((with_reducible repeat refine W.a2 ?_))
  cases hc:rootOk G ats roots[i] with
  | true=>
   refine W.ifF (by decide) (W.ret ⟨?_,d⟩)
   rw [w64i (n:=(i:Int)+1) (by omega) (by omega),if_pos rfl]
   exact ⟨rfl,rfl⟩
  | false=>
   refine W.ifT rfl (W.ret ⟨?_,d⟩)
   rw [if_neg (by decide)]
   exact ⟨rfl,rfl⟩
theorem specGensOk_run {base:Nat} {oa ya aa ra:Option Addr} {G:Gn} {ats:List ByteArray} {roots:List Int} {h:AH} (hG:G.Ok) (ha:ats.length≤1048576) (hz:∀ s∈ats,s.size≤maxLen) (hr:∀ w∈roots,wOk w) (hrl:roots.length≤9223372036854775807) (x:RdA base oa ya G aa ats h) (xr:Sl h ra (iv .i64 roots)) (xt:TyOk base h ra 3) (hb:base≤h.length) :
  ∃ h',run (Et base) 95 [.agg (gensV oa ya G).toArray,.slice aa ats.length ats.length,.slice ra roots.length roots.length] h=some (.bool (gOk G ats roots),h')∧KB NoB h h':=by
 have xlt:=x.lt
 have d:=(Hs.start hb).inp (fun b=>b<h.length) (fun y=>RdA base oa ya G aa ats y∧Sl y ra (iv .i64 roots)) ⟨x,xr⟩ (fun U y y' k hS q=>⟨q.1.keep k fun i hi=>hS i (xlt i hi),q.2.keep k fun i hi=>hS i (xt.lt i hi)⟩) (fun b hb=>hb) (fun x hx=>nomatch hx) rfl
 suffices W:Wp (run (Et base) 95 [.agg (gensV oa ya G).toArray,.slice aa ats.length ats.length,.slice ra roots.length roots.length] h) fun o=>o.1 = .bool (gOk G ats roots)∧KB NoB h o.2 by
  obtain ⟨⟨o1,o2⟩,e,y1,y2⟩:=W
  simp only at y1 y2
  subst y1
  exact ⟨o2,e,y2⟩
 refine W.of (fun r hx=>Am.r95 hx) ?_
 ((try simp only [n1,n2,n3,n4,n5,n6] at d);(refine W.nD d fun h1 d _ kh1=>?_))
 apply W.jb (gHead G ats) d
 ·unfold gHead
  ((with_reducible repeat refine W.a1 d ?_))
  refine W.ite (fun c=>?_) (fun c=>?_)
  ·rw [if_pos c];exact W.lb rfl rfl (KB.refl _ _)
  rw [if_neg c]
  ((with_reducible repeat refine W.a1 d ?_))
  refine W.ite (fun c=>?_) (fun c=>?_)
  ·rw [if_pos c];exact W.lb rfl rfl (KB.refl _ _)
  rw [if_neg c]
  ((with_reducible repeat refine W.a1 d ?_))
  refine W.bs l1In_run ?_
  ((with_reducible repeat refine W.a2 ?_))
  refine W.ite (fun c=>?_) (fun c=>?_)
  ·rw [if_pos c];exact W.lb rfl rfl (KB.refl _ _)
  rw [if_neg c]
  have hx:=(d.rs (i:=0) rfl:RdA base oa ya G aa ats h1∧Sl h1 ra (iv .i64 roots)).1
  refine W.bs (l5Atoms_run (by omega) (fun s hs=>by have:=hz s hs;unfold maxLen at this;omega) hx.2.2.2.2) ?_
  ((with_reducible repeat refine W.a2 ?_))
  exact W.lb rfl rfl (KB.refl _ _)
 intro h2 d n2
 ((with_reducible repeat refine W.a2 ?_))
 unfold gOk
 refine W.ite (fun c=>?_) (fun c=>?_)
 ·rw [c]
  exact W.ret ⟨rfl,d.kb⟩
 ·have c:gHead G ats=false:=by simpa using c
  rw [c,Bool.not_false,Bool.true_and]
  refine W.wb (specGensOk_loop (base:=base) (roots:=roots) (A:=fun y=>RdA base oa ya G aa ats y∧Sl y ra (iv .i64 roots)) hG c ha hz hr hrl (fun y hy=>hy) roots.length 0 h2 (by omega) d) ?_
  rintro ⟨o1,o2,h4⟩ ⟨y1,d⟩
  simp only at y1 d
  rw [List.drop_zero] at y1
  cases hc:roots.all (rootOk G ats) with
  | true=>
   rw [hc,if_pos rfl] at y1
   subst y1
   exact W.ifF (show ¬(2:Nat)=1 by decide) (W.ifT rfl (W.ret ⟨rfl,d.kb⟩))
  | false=>
   rw [hc,if_neg (by decide)] at y1
   obtain ⟨y1,y2⟩:=y1
   subst y1;subst y2
   exact W.ifT rfl (W.bB rfl (W.ret ⟨rfl,d.kb⟩))
structure Sw where
 old:List Int
 young:List Int
 wn:Int→Option Int
def Sw.len (σ:Sw) (o:Bool):Nat:=if o=true then σ.old.length else σ.young.length
def Sw.app (σ:Sw) (o:Bool) (l:List Int):Sw:=if o=true then ⟨σ.old++l,σ.young,σ.wn⟩ else ⟨σ.old,σ.young++l,σ.wn⟩
def Sw.set (σ:Sw) (o:Bool) (i:Nat) (x:Int):Sw:=if o=true then ⟨σ.old.set i x,σ.young,σ.wn⟩ else ⟨σ.old,σ.young.set i x,σ.wn⟩
def Sw.put (σ:Sw) (p v:Int):Sw:=⟨σ.old,σ.young,fun q=>if q=p then some v else σ.wn q⟩
def rawW (G:Gn) (w:Int):List Int:=(List.range (wid G w).toNat).map fun (i:Nat)=>(gwd G (valW w+(i:Int))).getD 0
def isPt (w:Int) (i:Nat):Bool:=tagW w==5||(tagW w==4&&decide (0<i))
def cpLoop (G:Gn) (w:Int) (o:Bool) (at_:Nat) (go:Int→Sw→Int×Sw):Nat→Nat→Sw→Sw
 | 0,_,σ=>σ
 | r+1,i,σ=>
  if isPt w i=true then cpLoop G w o at_ go r (i+1) ((go ((gwd G (valW w+(i:Int))).getD 0) σ).2.set o (at_+i) (go ((gwd G (valW w+(i:Int))).getD 0) σ).1)
  else cpLoop G w o at_ go r (i+1) (σ.set o (at_+i) ((gwd G (valW w+(i:Int))).getD 0))
def plc (o:Bool) (n:Nat):Int:=if o=true then (n:Int) else 100000+(n:Int)
def toO (G:Gn) (all:Bool) (w:Int):Bool:=all||prt G (valW w)==1
def stay (G:Gn) (all:Bool) (w:Int):Bool:=!leadW w||(prt G (valW w)==0 && !all)
def cp (fill:Bool) (G:Gn) (all:Bool):Nat→Int→Sw→Int×Sw
 | 0,w,σ=>(w,σ)
 | n+1,w,σ=>if stay G all w=true then (w,σ) else
  match σ.wn (valW w) with
  | some v=>(mkW (tagW w) v,σ)
  | none=>(mkW (tagW w) (plc (toO G all w) (σ.len (toO G all w))),
    cpLoop G w (toO G all w) (σ.len (toO G all w)) (cp fill G all n) (wid G w).toNat 0
     ((σ.app (toO G all w) (if fill=true then rawW G w else List.replicate (wid G w).toNat 0)).put (valW w) (plc (toO G all w) (σ.len (toO G all w)))))
def cpAll (fill:Bool) (G:Gn) (all:Bool) (n:Nat):List Int→Sw→List Int×Sw
 | [],σ=>([],σ)
 | w :: r,σ=>((cp fill G all n w σ).1 :: (cpAll fill G all n r (cp fill G all n w σ).2).1,(cpAll fill G all n r (cp fill G all n w σ).2).2)
def AgL (D:Nat→Prop) (l m:List Int):Prop:=l.length=m.length∧∀ i,¬D i→l[i]? = m[i]?
structure Ag (D:Bool→Nat→Prop) (σ τ:Sw):Prop where
 o:AgL (D true) σ.old τ.old
 y:AgL (D false) σ.young τ.young
 w:σ.wn=τ.wn
theorem Ag.len {D:Bool→Nat→Prop} {σ τ:Sw} (x:Ag D σ τ) (o:Bool):σ.len o=τ.len o:=by
 cases o
 ·exact x.y.1
 ·exact x.o.1
theorem AgL.mono {D E:Nat→Prop} {l m:List Int} (x:AgL D l m) (h:∀ i,D i→E i):AgL E l m:=⟨x.1,fun i hi=>x.2 i fun hd=>hi (h i hd)⟩
theorem Ag.mono {D E:Bool→Nat→Prop} {σ τ:Sw} (x:Ag D σ τ) (h:∀ o i,D o i→E o i):Ag E σ τ:=⟨x.o.mono (h true),x.y.mono (h false),x.w⟩
theorem AgL.set {D E:Nat→Prop} {l m:List Int} (x:AgL D l m) (j:Nat) (v:Int) (h:∀ i,D i→i≠j→E i):AgL E (l.set j v) (m.set j v):=by
 refine ⟨by simp [x.1],fun i hi=>?_⟩
 by_cases e:j=i
 ·subst e
  by_cases hj:j<l.length
  ·rw [List.getElem?_set_self hj,List.getElem?_set_self (by rw [← x.1];exact hj)]
  ·rw [List.getElem?_eq_none (by simp;omega),List.getElem?_eq_none (by simp;rw [← x.1];omega)]
 ·rw [List.getElem?_set_ne e,List.getElem?_set_ne e]
  exact x.2 i fun hd=>hi (h i hd (Ne.symm e))
theorem Ag.set {D E:Bool→Nat→Prop} {σ τ:Sw} (x:Ag D σ τ) (o:Bool) (j:Nat) (v:Int) (h:∀ p i,D p i→¬(p=o∧i=j)→E p i):Ag E (σ.set o j v) (τ.set o j v):=by
 cases o
 ·exact ⟨x.o.mono fun i hi=>h true i hi (by simp),x.y.set j v fun i hi hne=>h false i hi (by simp;exact hne),x.w⟩
 ·exact ⟨x.o.set j v fun i hi hne=>h true i hi (by simp;exact hne),x.y.mono fun i hi=>h false i hi (by simp),x.w⟩
theorem AgL.app {D:Nat→Prop} {l m a b:List Int} (x:AgL D l m) (hl:a.length=b.length):AgL (fun i=>D i∨(l.length≤i∧i<l.length+a.length)) (l++a) (m++b):=by
 refine ⟨by simp [x.1,hl],fun i hi=>?_⟩
 by_cases h1:i<l.length
 ·rw [List.getElem?_append_left h1,List.getElem?_append_left (by rw [← x.1];exact h1)]
  exact x.2 i fun hd=>hi (.inl hd)
 ·have h2:¬i<l.length+a.length:=fun h2=>hi (.inr ⟨by omega,h2⟩)
  rw [List.getElem?_eq_none (by simp;omega),List.getElem?_eq_none (by simp;rw [← x.1,← hl];omega)]
theorem Ag.app {D:Bool→Nat→Prop} {σ τ:Sw} (x:Ag D σ τ) (o:Bool) {a b:List Int} (hl:a.length=b.length):Ag (fun p i=>D p i∨(p=o∧σ.len o≤i∧i<σ.len o+a.length)) (σ.app o a) (τ.app o b):=by
 cases o
 ·exact ⟨x.o.mono fun i hi=>.inl hi,(x.y.app hl).mono fun i hi=>hi.imp id fun h=>⟨rfl,h⟩,x.w⟩
 ·exact ⟨(x.o.app hl).mono fun i hi=>hi.imp id fun h=>⟨rfl,h⟩,x.y.mono fun i hi=>.inl hi,x.w⟩
theorem rawW_len (G:Gn) (w:Int):(rawW G w).length=(wid G w).toNat:=by simp [rawW]
def CpAg (G:Gn) (all:Bool) (n:Nat):Prop:=∀ (w:Int) (D:Bool→Nat→Prop) (σ τ:Sw),Ag D σ τ→(∀ o i,D o i→i<σ.len o)→(cp false G all n w σ).1=(cp true G all n w τ).1∧Ag D (cp false G all n w σ).2 (cp true G all n w τ).2∧∀ o,σ.len o≤(cp false G all n w σ).2.len o
theorem Sw.len_set (σ:Sw) (o p:Bool) (i:Nat) (x:Int):(σ.set o i x).len p=σ.len p:=by
 cases o<;>cases p<;>simp [Sw.set,Sw.len]
theorem Sw.len_app (σ:Sw) (o p:Bool) (l:List Int):(σ.app o l).len p=σ.len p+if p=o then l.length else 0:=by
 cases o<;>cases p<;>simp [Sw.app,Sw.len]
theorem Sw.len_put (σ:Sw) (o:Bool) (p v:Int):(σ.put p v).len o=σ.len o:=rfl
theorem cpLoop_ag {G:Gn} {all:Bool} {n:Nat} (ih:CpAg G all n) (w:Int) (o:Bool) (at_:Nat) (E:Bool→Nat→Prop):∀ (r i:Nat) (σ τ:Sw),Ag (fun p j=>E p j∨(p=o∧at_+i≤j∧j<at_+i+r)) σ τ→(∀ p j,E p j→j<σ.len p)→at_+i+r≤σ.len o →
  Ag E (cpLoop G w o at_ (cp false G all n) r i σ) (cpLoop G w o at_ (cp true G all n) r i τ)∧∀ p,σ.len p≤(cpLoop G w o at_ (cp false G all n) r i σ).len p
 | 0,i,σ,τ,x,hE,hl=>⟨x.mono fun p j h=>h.elim id fun h=>by omega,fun _=>Nat.le_refl _⟩
 | r+1,i,σ,τ,x,hE,hl=>by
  rw [cpLoop,cpLoop]
  by_cases c:isPt w i=true
  ·rw [if_pos c,if_pos c]
   obtain ⟨e1,x1,l1⟩:=ih ((gwd G (valW w+(i:Int))).getD 0) _ σ τ x (fun p j h=>h.elim (hE p j) fun h=>by obtain ⟨rfl,_,h⟩:=h;omega)
   rw [← e1]
   have x2:=x1.set (E:=fun p j=>E p j∨(p=o∧at_+(i+1)≤j∧j<at_+(i+1)+r)) o (at_+i) (cp false G all n ((gwd G (valW w+(i:Int))).getD 0) σ).1 (fun p j h hne=>h.imp id fun h=>⟨h.1,by have:=h.2.1;rcases Nat.lt_or_eq_of_le this with q|q;omega;exact absurd ⟨h.1,q.symm⟩ hne,by omega⟩)
   obtain ⟨y1,y2⟩:=cpLoop_ag ih w o at_ E r (i+1) _ _ x2 (fun p j h=>by rw [Sw.len_set];exact Nat.lt_of_lt_of_le (hE p j h) (l1 p)) (by rw [Sw.len_set];have:=l1 o;omega)
   exact ⟨y1,fun p=>Nat.le_trans (l1 p) (by have:=y2 p;rw [Sw.len_set] at this;exact this)⟩
  ·rw [if_neg c,if_neg c]
   have x2:=x.set (E:=fun p j=>E p j∨(p=o∧at_+(i+1)≤j∧j<at_+(i+1)+r)) o (at_+i) ((gwd G (valW w+(i:Int))).getD 0) (fun p j h hne=>h.imp id fun h=>⟨h.1,by have:=h.2.1;rcases Nat.lt_or_eq_of_le this with q|q;omega;exact absurd ⟨h.1,q.symm⟩ hne,by omega⟩)
   obtain ⟨y1,y2⟩:=cpLoop_ag ih w o at_ E r (i+1) _ _ x2 (fun p j h=>by rw [Sw.len_set];exact hE p j h) (by rw [Sw.len_set];omega)
   exact ⟨y1,fun p=>by have:=y2 p;rw [Sw.len_set] at this;exact this⟩
theorem cp_ag {G:Gn} {all:Bool}:∀ n,CpAg G all n
 | 0=>fun w D σ τ x _=>⟨rfl,x,fun _=>Nat.le_refl _⟩
 | n+1=>by
  intro w D σ τ x hD
  rw [cp,cp]
  by_cases c:stay G all w=true
  ·rw [if_pos c,if_pos c];exact ⟨rfl,x,fun _=>Nat.le_refl _⟩
  rw [if_neg c,if_neg c,← x.w]
  cases e:σ.wn (valW w) with
  | some v=>exact ⟨rfl,x,fun _=>Nat.le_refl _⟩
  | none=>
   simp only [if_true,if_neg (show ¬(false=true) by decide)]
   rw [← x.len]
   refine ⟨rfl,?_⟩
   have x1:=x.app (toO G all w) (a:=List.replicate (wid G w).toNat 0) (b:=rawW G w) (by simp [rawW_len])
   have x2:Ag (fun p i=>D p i∨(p=toO G all w∧σ.len (toO G all w)+0≤i∧i<σ.len (toO G all w)+0+(wid G w).toNat)) ((σ.app (toO G all w) (List.replicate (wid G w).toNat 0)).put (valW w) (plc (toO G all w) (σ.len (toO G all w)))) ((τ.app (toO G all w) (rawW G w)).put (valW w) (plc (toO G all w) (σ.len (toO G all w)))):=by
    refine ⟨x1.o.mono fun i hi=>?_,x1.y.mono fun i hi=>?_,?_⟩
    ·simpa using hi
    ·simpa using hi
    ·have:=x1.w
     simp only [Sw.put,this]
   obtain ⟨y1,y2⟩:=cpLoop_ag (cp_ag n) w (toO G all w) (σ.len (toO G all w)) D (wid G w).toNat 0 _ _ x2 (fun p j h=>by rw [Sw.len_put,Sw.len_app];have:=hD p j h;omega) (by rw [Sw.len_put,Sw.len_app];simp)
   exact ⟨y1,fun p=>Nat.le_trans (by rw [Sw.len_put,Sw.len_app];omega) (y2 p)⟩
theorem AgL.eq {l m:List Int} (x:AgL (fun _=>False) l m):l=m:=List.ext_getElem? fun i=>x.2 i fun h=>h
theorem Ag.eq {σ τ:Sw} (x:Ag (fun _ _=>False) σ τ):σ=τ:=by
 obtain ⟨o1,y1,w1⟩:=σ
 obtain ⟨o2,y2,w2⟩:=τ
 have e1:=x.o.eq
 have e2:=x.y.eq
 have e3:=x.w
 simp only at e1 e2 e3
 subst e1;subst e2;subst e3
 rfl
theorem cp_fill {G:Gn} {all:Bool} {n:Nat} {w:Int} {σ:Sw}:cp false G all n w σ=cp true G all n w σ:=by
 obtain ⟨h1,h2,_⟩:=cp_ag (G:=G) (all:=all) n w (fun _ _=>False) σ σ ⟨⟨rfl,fun _ _=>rfl⟩,⟨rfl,fun _ _=>rfl⟩,rfl⟩ (fun _ _ h=>h.elim)
 exact Prod.ext h1 h2.eq
theorem cpAll_fill {G:Gn} {all:Bool} {n:Nat}:∀ (l:List Int) (σ:Sw),cpAll false G all n l σ=cpAll true G all n l σ
 | [],σ=>rfl
 | w :: r,σ=>by
  rw [cpAll,cpAll,cp_fill,cpAll_fill r]
def plI (i:Nat):Int:=if i<1000 then (i:Int) else 100000+((i:Int)-1000)
def gone (σ:Sw):Nat:=(List.range 2000).countP fun i=>(σ.wn (plI i)).isSome
def Sw.In (σ:Sw):Prop:=σ.old.length+σ.young.length≤1000+50*gone σ
theorem gone_le (σ:Sw):gone σ≤2000:=Nat.le_trans List.countP_le_length (by simp)
theorem Sw.In.le {σ:Sw} (x:σ.In) (o:Bool):σ.len o≤101000:=by
 have:=gone_le σ
 unfold Sw.In at x
 cases o
 ·show σ.young.length≤_;omega
 ·show σ.old.length≤_;omega
theorem countP_one {f g:Nat→Bool}:∀ (l:List Nat) (j:Nat),l.Nodup→j∈l→f j=false→g j=true→(∀ i,i≠j→g i=f i)→l.countP g=l.countP f+1
 | [],j,_,hj,_,_,_=>by cases hj
 | x :: r,j,nd,hj,hf,hg,h=>by
  rw [List.nodup_cons] at nd
  by_cases e:x=j
  ·subst e
   have hr:r.countP g=r.countP f:=List.countP_congr fun i hi=>by
    have:i≠x:=fun e=>nd.1 (e ▸ hi)
    rw [h i this]
   rw [List.countP_cons,List.countP_cons,hr,hf,hg]
   simp
  ·have hj':j∈r:=by
    rcases List.mem_cons.1 hj with q|q
    ·exact absurd q.symm e
    ·exact q
   rw [List.countP_cons,List.countP_cons,countP_one r j nd.2 hj' hf hg h,h x e]
   omega
theorem gone_put {σ:Sw} {p v:Int} (hp:∃ i,i<2000∧plI i=p) (hn:σ.wn p=none):gone (σ.put p v)=gone σ+1:=by
 obtain ⟨j,hj,e⟩:=hp
 unfold gone
 refine countP_one _ j List.nodup_range (by simpa using hj) (by rw [e,hn];rfl) (by simp [Sw.put,e]) fun i hi=>?_
 have hne:plI i≠p:=fun h=>hi (by rw [← e] at h;unfold plI at h;split at h<;>split at h<;>omega)
 simp [Sw.put,hne]
theorem wid_le {G:Gn} {w:Int} (hn:Nd G w) (hl:leadW w=true):1≤wid G w∧wid G w≤41:=by
 have h3:tagW w=4∨tagW w=5∨tagW w=6:=by
  unfold leadW inB at hl
  simp at hl
  omega
 unfold wid
 split
 ·omega
 ·rcases h3 with h|h|h
  ·obtain ⟨v,e,_⟩:=hn.2.1 h
   rw [e];simp only [Option.getD_some];omega
  ·omega
  ·obtain ⟨v,e,_⟩:=hn.1 h
   rw [e];simp only [Option.getD_some];omega
theorem Nd.some {G:Gn} {w:Int} (h:Nd G w) (hl:leadW w=true):(gwd G (valW w)).isSome=true:=by
 have:tagW w=4∨tagW w=5∨tagW w=6:=by
  unfold leadW inB at hl
  simp at hl
  omega
 rcases this with e|e|e
 ·obtain ⟨v,hv,_⟩:=h.2.1 e;rw [hv];rfl
 ·exact (h.2.2 e).1
 ·obtain ⟨v,hv,_⟩:=h.1 e;rw [hv];rfl
theorem Nd.pl {G:Gn} (ho:G.old.length≤1000) (hy:G.young.length≤1000) {w:Int} (h:Nd G w) (hl:leadW w=true):∃ i,i<2000∧plI i=valW w:=by
 have hs:=h.some hl
 cases e:gwd G (valW w) with
 | none=>rw [e] at hs;cases hs
 | some v=>
  unfold gwd at e
  split at e
  ·rename_i c
   obtain ⟨_,a,b⟩:=ati_ok e
   refine ⟨(valW w-100000).toNat+1000,by omega,?_⟩
   unfold plI
   rw [if_neg (by omega)];omega
  ·obtain ⟨_,a,b⟩:=ati_ok e
   refine ⟨(valW w).toNat,by omega,?_⟩
   unfold plI
   rw [if_pos (by omega)];omega
theorem chW_at {G:Gn} {w:Int} {i:Nat} (hi:(i:Int)<wid G w) (c:isPt w i=true):(gwd G (valW w+(i:Int))).getD 0∈chW G w:=by
 unfold isPt at c
 unfold wid at hi
 unfold chW
 by_cases h5:tagW w=5
 ·rw [if_pos h5]
  rw [if_pos h5] at hi
  have:i=0∨i=1:=by omega
  rcases this with rfl|rfl
  ·simp
  ·simp
 ·rw [if_neg h5] at hi ⊢
  simp [h5] at c
  rw [if_pos c.1,List.mem_map]
  refine ⟨i-1,?_,?_⟩
  ·rw [List.mem_range];omega
  ·rw [show valW w+1+((i-1:Nat):Int)=valW w+(i:Int) from by omega]
theorem Sw.In.set {σ:Sw} (x:σ.In) (o:Bool) (i:Nat) (v:Int):(σ.set o i v).In:=by
 unfold Sw.In gone at x ⊢
 cases o<;>simpa [Sw.set] using x
theorem cpLoop_in {G:Gn} {w:Int} {o:Bool} {at_:Nat} {go:Int→Sw→Int×Sw} (hgo:∀ x∈chW G w,∀ σ:Sw,σ.In→(go x σ).2.In):∀ (r i:Nat) (σ:Sw),(i:Int)+r≤wid G w→σ.In→(cpLoop G w o at_ go r i σ).In
 | 0,i,σ,_,x=>x
 | r+1,i,σ,hi,x=>by
  rw [cpLoop]
  split
  ·rename_i c
   exact cpLoop_in hgo r (i+1) _ (by omega) ((hgo _ (chW_at (by omega) c) σ x).set _ _ _)
  ·exact cpLoop_in hgo r (i+1) _ (by omega) (x.set _ _ _)
theorem Sw.In.grow {σ:Sw} (x:σ.In) {o:Bool} {l:List Int} (hl:l.length≤41) {p v:Int} (hp:∃ i,i<2000∧plI i=p) (hn:σ.wn p=none):((σ.app o l).put p v).In:=by
 have e:(σ.app o l).wn=σ.wn:=by cases o<;>rfl
 have hn':(σ.app o l).wn p=none:=by rw [e];exact hn
 have g:=gone_put (v:=v) hp hn'
 have g2:gone (σ.app o l)=gone σ:=by unfold gone;rw [e]
 unfold Sw.In at x ⊢
 rw [g,g2]
 cases o<;>simp [Sw.app,Sw.put]<;>omega
theorem cp_in {G:Gn} {all:Bool} (ho:G.old.length≤1000) (hy:G.young.length≤1000):∀ (n:Nat) (w:Int) (σ:Sw),Fue G n w→σ.In→(cp false G all n w σ).2.In
 | 0,w,σ,h,_=>h.elim
 | n+1,w,σ,h,x=>by
  rw [cp]
  split
  ·exact x
  ·rename_i c
   have hl:leadW w=true:=by
    unfold stay at c
    cases e:leadW w with
    | true=>rfl
    | false=>rw [e] at c;exact absurd rfl c
   split
   ·exact x
   ·rename_i e
    obtain ⟨w1,w2⟩:=wid_le h.1 hl
    exact cpLoop_in (fun y hy' σ' x'=>cp_in ho hy n y σ' (h.2 y hy') x') _ 0 _ (by omega) (x.grow (by simp;omega) (h.1.pl ho hy hl) e)
theorem cp_len {G:Gn} {all:Bool} {n:Nat} {w:Int} {σ:Sw} (o:Bool):σ.len o≤(cp false G all n w σ).2.len o:=
 (cp_ag (G:=G) (all:=all) n w (fun _ _=>False) σ σ ⟨⟨rfl,fun _ _=>rfl⟩,⟨rfl,fun _ _=>rfl⟩,rfl⟩ (fun _ _ h=>h.elim)).2.2 o
def stepX (fill:Bool) (G:Gn) (all:Bool) (n:Nat) (w:Int) (i:Nat) (σ:Sw):Int×Sw:=if isPt w i=true then cp fill G all n ((gwd G (valW w+(i:Int))).getD 0) σ else ((gwd G (valW w+(i:Int))).getD 0,σ)
theorem cpLoop_step {fill:Bool} {G:Gn} {all:Bool} {n:Nat} {w:Int} {o:Bool} {at_ r i:Nat} {σ:Sw}:cpLoop G w o at_ (cp fill G all n) (r+1) i σ=cpLoop G w o at_ (cp fill G all n) r (i+1) ((stepX fill G all n w i σ).2.set o (at_+i) (stepX fill G all n w i σ).1):=by
 rw [cpLoop]
 unfold stepX
 split<;>rfl
theorem Hs.appN {base t sz bytes i n m:Nat} {V S:Fp} {h0 h:AH} {D:Ds} {R:List Rs} {a:Option Addr} {olds new:List Value} {src:Option (List Value)} (d:Hs base V h0 h D R) (ei:R[i]? = some ⟨S,true,fun x=>Own base t x a olds⟩) (hS:∀ b,blk a b→S b) (hn:olds.length=n*sz) (hsz:0<sz) (hs:src=some new) (h1:(n+m)*bytes≤140737488355328) (h2:n+m≤9223372036854775807) (hm:new.length=m*sz) :
  ∃ a' h',Am.app base h t sz bytes a n src m=some (.slice a' (n+m) (n+m),h')∧Hs base V h0 h' D (R.set i ⟨blk a',true,fun y=>Own base t y a' (olds++new)⟩)∧KB (blk a) h h':=by
 obtain ⟨a',h',e,o,k,q⟩:=Own.app (x:=d.rs ei) (bytes:=bytes) (m:=m) hn hsz hs d.ge h1 h2 hm
 refine ⟨a',h',e,d.upd (Upd.at ei) rfl rfl k (fun b hb=>.inl (hS b hb)) o (fun U y y' ky hs x=>x.keep ky hs) (fun b hb=>?_),k⟩
 rcases q with ⟨_,e,_⟩|q
 ·have hb:blk a' b:=hb
  rw [e] at hb
  exact .inl (hS b hb)
 ·have e:=q b hb
  have:=(o.lt hb).2
  exact .inr ⟨by omega,this⟩
def addA (l:List ByteArray) (s:ByteArray):List ByteArray×Int:=if aix s l 0≥0 then (l,aix s l 0) else if (!atomOk s)=true then (l,-1) else if decide ((l.length:Int)≥200)=true then (l,-1) else (l++[s],(l.length:Int))
theorem stV_leaf (l:List ByteArray):(stV l).all leaf=true:=by
 induction l with
 | nil=>rfl
 | cons x r ih=>simp only [stV,List.map_cons,List.all_cons] at ih ⊢;rw [ih];rfl
abbrev rSt (base:Nat) (a:Option Addr) (l:List ByteArray):Rs:=⟨blk a,true,fun y=>Own base 9 y a (stV l)⟩
theorem Hs.copyE {base b:Nat} {V:Fp} {h0 h:AH} {D:Ds} {R:List Rs} {v:Option Addr} {l:List ByteArray} (d:Hs base V h0 h ((b,9,[]) :: D) R) (hl:l.length≤1048576) (hs:Sl h v (stV l)) (hi:R = []):∃ a' h',Am.app base h 9 1 16 (at0 b) 0 (rawAt h v (l.length*1)) l.length=some (.slice a' l.length l.length,h')∧Hs base V h0 h' D [rSt base a' l]∧KB (· = b) h h':=by
 subst hi
 have hr:rawAt h v (l.length*1)=some (stV l):=by
  have:=hs.raw (stV_leaf l)
  rw [stV_len] at this
  rw [Nat.mul_one]
  exact this
 have d:=d.unbox (Del.at (i:=0) rfl)
 simp only [n5,n6] at d
 obtain ⟨a2,h2,e2,d,k2⟩:=d.appN (i:=0) (n:=0) (m:=l.length) (sz:=1) (bytes:=16) (a:=at0 b) rfl (fun b hb=>(blk_at0.1 hb)) (by simp) (by decide) hr (by omega) (by omega) (by rw [stV_len];omega)
 simp only [List.nil_append,Nat.zero_add] at e2 d
 exact ⟨a2,h2,e2,d,k2.mono fun i _ hi=>blk_at0.1 hi⟩
def AddR (base:Nat) (F:Nat):Prop:=∀ (h:AH) (l:List ByteArray) (v:Option Addr) (s:ByteArray),l.length≤1048576→s.size≤9223372036854775807→Sl h v (stV l)→(∀ b,blk v b→b<h.length)→base≤h.length →
 ∃ a' h',run (Et base) F [.slice v l.length l.length,.string s] h=some (.tuple #[.slice a' (addA l s).1.length (addA l s).1.length,.int .i64 (addA l s).2],h')∧Own base 9 h' a' (stV (addA l s).1)∧KB NoB h h'∧∀ b,blk a' b→h.length≤b
theorem stV_app (l:List ByteArray) (s:ByteArray):stV l++[.string s]=stV (l++[s]):=by simp [stV]
theorem specAdd_run {base:Nat}:AddR base 230:=by
 intro h l v s hl hsz hs hvb hb
 have d:=Hs.start hb
 suffices W:Wp (run (Et base) 230 [.slice v l.length l.length,.string s] h) fun o=>∃ a',o.1 = .tuple #[.slice a' (addA l s).1.length (addA l s).1.length,.int .i64 (addA l s).2]∧Own base 9 o.2 a' (stV (addA l s).1)∧KB NoB h o.2∧∀ b,blk a' b→h.length≤b by
  obtain ⟨⟨o1,o2⟩,e,a',y1,y2⟩:=W
  simp only at y1 y2
  subst y1
  exact ⟨a',o2,e,y2⟩
 refine W.of (fun r hx=>Am.r230 hx) ?_
 ((refine W.nD d fun h1 d _ kh1=>?_))
 obtain ⟨a2,h2,e2,d,k2⟩:=d.copyE hl (hs.keepN d.kb) rfl
 refine W.bs e2 ?_
 ((with_reducible repeat refine W.a2 ?_))
 refine W.bs (specAtomAt_run (by omega) (hs.keepN d.kb)) ?_
 ((with_reducible repeat refine W.a2 ?_))
 have fr:∀ b,blk a2 b→h.length≤b:=fun b hb=>(d.rfr (i:=0) rfl rfl b hb).resolve_left fun h=>h
 unfold addA
 have hle:=aix_le s l 0
 apply W.jb (if aix s l 0≥0 then true else if (!atomOk s)=true then true else decide ((l.length:Int)≥200)) d
 ·refine W.ite (fun c=>?_) (fun c=>?_)
  ·have c:aix s l 0≥0:=by simpa using c
   rw [if_pos c];exact W.lb rfl rfl (KB.refl _ _)
  have c:¬aix s l 0≥0:=by simpa using c
  rw [if_neg c]
  refine W.bs (specAtomOk_run hsz) ?_
  ((with_reducible repeat refine W.a2 ?_))
  refine W.ite (fun c1=>?_) (fun c1=>?_)
  ·rw [if_pos c1];exact W.lb rfl rfl (KB.refl _ _)
  ·rw [if_neg c1];exact W.lb rfl rfl (KB.refl _ _)
 intro h3 d n3
 ((with_reducible repeat refine W.a2 ?_))
 refine W.ite (fun c1=>?_) (fun c1=>?_)
 ·have e:(if aix s l 0≥0 then (l,aix s l 0) else if (!atomOk s)=true then (l,(-1:Int)) else if decide ((l.length:Int)≥200)=true then (l,-1) else (l++[s],(l.length:Int)))=(l,aix s l 0):=by
   by_cases c:aix s l 0≥0
   ·rw [if_pos c]
   ·rw [if_neg c] at c1 ⊢
    rw [show aix s l 0 = -1 from by omega]
    by_cases c2:(!atomOk s)=true
    ·rw [if_pos c2]
    ·rw [if_neg c2] at c1 ⊢
     rw [if_pos c1]
  rw [e]
  exact W.ret ⟨a2,rfl,d.rs (i:=0) rfl,d.kb,fr⟩
 ·have e:(if aix s l 0≥0 then (l,aix s l 0) else if (!atomOk s)=true then (l,(-1:Int)) else if decide ((l.length:Int)≥200)=true then (l,-1) else (l++[s],(l.length:Int)))=(l++[s],(l.length:Int)):=by
   by_cases c:aix s l 0≥0
   ·rw [if_pos c] at c1;exact absurd rfl c1
   ·rw [if_neg c] at c1 ⊢
    by_cases c2:(!atomOk s)=true
    ·rw [if_pos c2] at c1;exact absurd rfl c1
    ·rw [if_neg c2] at c1 ⊢
     rw [if_neg c1]
  rw [e]
  ((refine W.nD d fun h4 d _ kh4=>?_))
  have n9:=d.kb.1
  obtain ⟨a5,h5,e5,d,q5,k5,_⟩:=d.app1O (w:=1) (i:=0) (n:=l.length) (bytes:=16) rfl (fun b hb=>hb) (.head _) rfl (by decide) (by rw [stV_len];omega) rfl (by omega) (by omega)
  refine W.bs e5 ?_
  ((with_reducible repeat refine W.a2 ?_))
  have o5:Own base 9 h5 a5 (stV l++[.string s]):=d.rs (i:=0) rfl
  rw [stV_app] at o5
  refine W.ret ⟨a5,by rw [List.length_append];rfl,o5,d.kb,fun b hb=>?_⟩
  have:=q5 b hb
  have:=d.kb.1
  omega
def Wf (f:Nat) (t:Tm):Prop:=∃ d x,x≤100∧0≤lk f t d x
theorem lkS_mem2 {g:Tm→Int→Int→Int} (hg:∀ t d x,0≤x→-1≤g t d x∧g t d x≤x):∀ (l:List Tm) (d x:Int),x≤100→0≤lkS g l d x→∀ t∈l,∃ d' x',x'≤100∧0≤g t d' x'
 | [],d,x,_,_,t,ht=>by cases ht
 | u :: r,d,x,hx,h,t,ht=>by
  rw [lkS] at h
  by_cases h0:x≥0
  ·rw [if_pos h0] at h
   have hu:=hg u d x h0
   rcases List.mem_cons.1 ht with rfl|ht
   ·refine ⟨d,x,hx,?_⟩
    by_cases hc:0≤g t d x
    ·exact hc
    ·rw [lkS_neg _ _ _ _ (by omega)] at h;omega
   ·exact lkS_mem2 hg r _ _ (by omega) h t ht
  ·rw [if_neg h0] at h;omega
theorem Wf.open {f:Nat} {k n:Int} {s:ByteArray} {l:List Tm} (h:Wf (f+1) (.mk k n s l)):shB k n s l.length=true∧∀ t∈l,Wf f t:=by
 obtain ⟨d,x,hx,h⟩:=h
 rw [lk] at h
 split at h
 ·omega
 ·rename_i hn
  refine ⟨?_,fun t ht=>?_⟩
  ·cases hs:shB k n s l.length with
   | true=>rfl
   | false=>exact absurd (.inr (.inr hs)) hn
  ·obtain ⟨d',x',a,b⟩:=lkS_mem2 (lk_le f) l _ _ (by omega) h t ht
   exact ⟨d',x',a,b⟩
theorem Wf.of {f:Nat} {t:Tm} (h:tOk f t=true):Wf f t:=⟨6,100,by omega,of_decide_eq_true h⟩
def ndN (k:Int) (s:ByteArray) (m:Nat):Nat:=if k=4 then 1+m else if k=5 then 2*m else if k=6 then 1+s.size else 0
def needT:Nat→Tm→Nat
 | 0,_=>0
 | f+1,.mk k _ s l=>ndN k s l.length+sumL (needT f) l
theorem sh_kinds {k n:Int} {s:ByteArray} {m:Nat} (h:shB k n s m=true):(k=1∨k=2∨k=3∨k=4∨k=5∨k=6)∧(k≠4→k≠5→m=0)∧(k=1→-1000000≤n∧n≤1000000)∧(k=3→0≤n∧n≤99999)∧(k=4→m≤8)∧(k=5→m≤20)∧(k=6→s.size≤40):=by
 unfold shB at h
 by_cases h1:k=1
 ·subst h1
  simp only [beq_self_eq_true,if_true,Bool.and_eq_true,beq_iff_eq] at h
  obtain ⟨⟨a,_⟩,b⟩:=h
  have : -1000000≤n∧n≤1000000:=by unfold inB at a;simpa using a
  refine ⟨by omega,fun _ _=>by omega,fun _=>this,fun h=>by omega,fun h=>by omega,fun h=>by omega,fun h=>by omega⟩
 rw [if_neg (by simpa using h1)] at h
 by_cases h2:k=2
 ·subst h2
  simp only [beq_self_eq_true,if_true,Bool.and_eq_true,beq_iff_eq] at h
  obtain ⟨_,b⟩:=h
  refine ⟨by omega,fun _ _=>by omega,fun h=>by omega,fun h=>by omega,fun h=>by omega,fun h=>by omega,fun h=>by omega⟩
 rw [if_neg (by simpa using h2)] at h
 by_cases h3:k=3
 ·subst h3
  simp only [beq_self_eq_true,if_true,Bool.and_eq_true,beq_iff_eq] at h
  obtain ⟨⟨a,_⟩,b⟩:=h
  have:0≤n∧n≤99999:=by unfold inB at a;simpa using a
  refine ⟨by omega,fun _ _=>by omega,fun h=>by omega,fun _=>this,fun h=>by omega,fun h=>by omega,fun h=>by omega⟩
 rw [if_neg (by simpa using h3)] at h
 by_cases h4:k=4
 ·subst h4
  simp only [beq_self_eq_true,if_true,Bool.and_eq_true,beq_iff_eq,decide_eq_true_eq] at h
  obtain ⟨_,b⟩:=h
  refine ⟨by omega,fun h=>absurd rfl h,fun h=>by omega,fun h=>by omega,fun _=>by omega,fun h=>by omega,fun h=>by omega⟩
 rw [if_neg (by simpa using h4)] at h
 by_cases h5:k=5
 ·subst h5
  simp only [beq_self_eq_true,if_true,Bool.and_eq_true,beq_iff_eq,decide_eq_true_eq] at h
  obtain ⟨_,b⟩:=h
  refine ⟨by omega,fun _ h=>absurd rfl h,fun h=>by omega,fun h=>by omega,fun h=>by omega,fun _=>by omega,fun h=>by omega⟩
 rw [if_neg (by simpa using h5)] at h
 by_cases h6:k=6
 ·subst h6
  simp only [beq_self_eq_true,if_true,Bool.and_eq_true,beq_iff_eq,decide_eq_true_eq] at h
  obtain ⟨⟨_,a⟩,b⟩:=h
  refine ⟨by omega,fun _ _=>by omega,fun h=>by omega,fun h=>by omega,fun h=>by omega,fun h=>by omega,fun _=>by omega⟩
 ·rw [if_neg (by simpa using h6)] at h;cases h
theorem ndN_le {k n:Int} {s:ByteArray} {m:Nat} (h:shB k n s m=true):ndN k s m≤41:=by
 obtain ⟨_,_,_,_,a,b,c⟩:=sh_kinds h
 unfold ndN
 split
 ·have:=a (by assumption);omega
 ·split
  ·have:=b (by assumption);omega
  ·split
   ·have:=c (by assumption);omega
   ·omega
theorem need_lk:∀ (f:Nat) (t:Tm) (d x:Int),0≤lk f t d x→(needT f t:Int)+41*lk f t d x≤41*x
 | 0,t,d,x,h=>by rw [lk] at h;omega
 | f+1,.mk k n s l,d,x,h=>by
  rw [lk] at h ⊢
  split at h
  ·omega
  ·rename_i hn
   rw [if_neg hn]
   have hs:shB k n s l.length=true:=by
    cases hs:shB k n s l.length with
    | true=>rfl
    | false=>exact absurd (.inr (.inr hs)) hn
   have hl:∀ (r:List Tm) (d x:Int),0≤lkS (lk f) r d x→((sumL (needT f) r:Nat):Int)+41*lkS (lk f) r d x≤41*x:=by
    intro r
    induction r with
    | nil=>intro d x hx;simp [sumL,lkS]
    | cons t r ihr=>
     intro d x hx
     rw [lkS] at hx ⊢
     split at hx
     ·rename_i h0
      rw [if_pos h0]
      have h1:0≤lk f t d x:=by
       by_cases hc:0≤lk f t d x
       ·exact hc
       ·rw [lkS_neg _ _ _ _ (by omega)] at hx;omega
      have a:=need_lk f t d x h1
      have b:=ihr d _ hx
      simp only [sumL]
      omega
     ·omega
   have:=hl l _ _ h
   have:=ndN_le hs
   rw [needT]
   omega
theorem Wf.need {f:Nat} {t:Tm} (h:Wf f t):needT f t≤4100:=by
 obtain ⟨d,x,hx,h⟩:=h
 have:=need_lk f t d x h
 omega
def NeedR (base F:Nat) (f:Nat):Prop:=∀ (h:AH) (p:Nat→Prop) (t:Tm) (cs:List Value),TmR h p f t cs→Wf f t→base≤h.length→∃ h',run (Et base) F [.agg cs.toArray] h=some (.int .i64 (needT f t),h')∧KB NoB h h'
theorem specNeed_loop {base f tb:Nat} {k n:Int} {s:ByteArray} {a:Option Addr} {l:List Tm} {p:Nat→Prop} (hl:l.length≤20) (hk:l≠[]→k=4∨k=5) (hw:∀ t∈l,Wf f t) (ih:NeedR base 192 f):∀ (r i:Nat) (h:AH) (acc:Int),i+r=l.length→0≤acc→acc+4100*r≤1000000→TsR h p f l a→base≤h.length→Own base 42 h (at0 tb) (termV k n s a l.length) →
  Wp (loopL (B192_0 base) [some (.pointer (at0 tb)),some (.int .i64 acc),some (.int .i64 (i:Int))] h) fun o=>o.1=3∧o.2.1 = [some (.int .i64 (acc+((sumL (needT f) (l.drop i):Nat):Int)))]∧KB NoB h o.2.2:=by
 intro r
 induction r with
 | zero=>
  intro i h acc hi ha hb hs hbb o
  suffices w1:Wp (B192_0 base [some (.pointer (at0 tb)),some (.int .i64 acc),some (.int .i64 (i:Int))] h) fun o=>o=(3,[some (.int .i64 acc)],h) by
   obtain ⟨o,e,rfl⟩:=w1
   refine ⟨_,loop_off (by decide) e,rfl,?_,KB.refl _ _⟩
   rw [List.drop_of_length_le (by omega)]
   simp [sumL]
  rw [B192_0_eq]
  refine W.join (W.bS (o.at0 (i:=3) rfl) (W.ifF (by simp;omega) (W.il ?_)))
  exact W.bs rfl (W.bs rfl (W.bs rfl (W.bs rfl (W.ifF (by decide) (W.ret rfl)))))
 | succ r ihr=>
  intro i h acc hi ha hb hs hbb o
  have hlt:i<l.length:=by omega
  have hwi:=hw l[i] (List.getElem_mem _)
  have hni:=hwi.need
  have hk:=hk (fun e=>by rw [e] at hlt;simp at hlt)
  have ed:l.drop i=l[i] :: l.drop (i+1):=List.drop_eq_getElem_cons hlt
  suffices w1:Wp (B192_0 base [some (.pointer (at0 tb)),some (.int .i64 acc),some (.int .i64 (i:Int))] h) fun o=>o.1=0∧o.2.1 = [some (.pointer (at0 tb)),some (.int .i64 (acc+(needT f l[i]:Int))),some (.int .i64 ((i+1:Nat):Int))]∧KB NoB h o.2.2 by
   obtain ⟨⟨o1,o2,h'⟩,e,y1,y2,k⟩:=w1
   simp only at y1 y2 k
   subst y1;subst y2
   obtain ⟨o,eo,z1,z2,z3⟩:=ihr (i+1) h' (acc+(needT f l[i]:Int)) (by omega) (by omega) (by omega) (hs.keep k fun _ _ h=>h) (Nat.le_trans hbb k.1) (o.keepN k)
   refine ⟨o,loop_on e eo,z1,?_,kN k z3⟩
   rw [z2,ed]
   rw [sumL,Int.natCast_add,Int.add_assoc]
  rw [B192_0_eq]
  refine W.join (W.bS (o.at0 (i:=3) rfl) (W.ifT (decide_eq_true (by omega)) (W.bI (o.at0 (i:=0) rfl) (W.bs l1In_run (W.bB rfl (W.il ?_))))))
  refine W.bs rfl (W.bs rfl (W.bs rfl (W.bs rfl (W.ifT ?_ ?_))))
  ·unfold inB;rcases hk with rfl|rfl<;>rfl
  refine W.bS (o.at0 (i:=3) rfl) (W.ifT (by omega) ?_)
  cases f with
  | zero=>obtain ⟨d,x,_,hx⟩:=hwi;rw [lk] at hx;omega
  | succ f=>
   obtain ⟨ad,k,n,s,a2,m,rfl,g0,g1,g2,g3,hm⟩:=hs.getT hlt
   refine W.bs rfl (W.bI g0 (W.bI g1 (W.bT g2 (W.bS g3 ?_))))
   obtain ⟨h3,e3,k3⟩:=ih h p _ _ hm hwi hbb
   refine W.bs e3 (W.bI rfl ?_)
   rw [w64i (n:=acc+(needT (f+1) l[i]:Int)) (by omega) (by omega),w64i (n:=(i:Int)+1) (by omega) (by omega)]
   exact W.ret ⟨rfl,rfl,k3⟩
theorem specNeed_run {base:Nat}:∀ f,NeedR base 192 f
 | 0=>fun h p t cs _ hw _=>by obtain ⟨d,x,_,hx⟩:=hw;rw [lk] at hx;omega
 | f+1=>by
  intro h p t cs hm hw hb
  have ih:=specNeed_run (base:=base) f
  obtain ⟨k,n,s,l⟩:=t
  obtain ⟨hsh,hch⟩:=hw.open
  obtain ⟨ks,k0,_,_,k4,k5,k6⟩:=sh_kinds hsh
  obtain ⟨a,rfl,hts,hsz,hln⟩:=hm.parts
  have hl20:l.length≤20:=by
   by_cases c4:k=4
   ·have:=k4 c4;omega
   ·by_cases c5:k=5
    ·exact k5 c5
    ·rw [k0 c4 c5];omega
  have d:=Hs.start hb
  suffices W:Wp (run (Et base) 192 [.agg (termV k n s a l.length).toArray] h) fun o=>o.1 = .int .i64 (needT (f+1) (.mk k n s l))∧KB NoB h o.2 by
   obtain ⟨⟨o1,o2⟩,e,y1,y2⟩:=W
   simp only at y1 y2
   subst y1
   exact ⟨o2,e,y2⟩
  refine W.of (fun r hx=>Am.r192 hx) ?_
  ((refine W.nD d fun h1 d _ kh1=>?_))
  rw [needT]
  refine W.joinP (fun q=>q=([some (.pointer (at0 h.length)),some (.int .i64 ((ndN k s l.length:Nat):Int))],h1)) ?_ fun q hq=>?_
  ·((with_reducible repeat refine W.a1 d ?_))
   refine W.ite (fun c=>?_) (fun c=>?_)
   ·have c:k=4:=by simpa using c
    ((with_reducible repeat refine W.a1 d ?_))
    rw [w64i (n:=1+(l.length:Int)) (by omega) (by omega)]
    refine W.inl ?_
    unfold ndN
    rw [if_pos c]
    rfl
   have c4:¬k=4:=by simpa using c
   refine W.ite (fun c=>?_) (fun c=>?_)
   ·have c:k=5:=by simpa using c
    ((with_reducible repeat refine W.a1 d ?_))
    rw [w64i (n:=2*(l.length:Int)) (by omega) (by omega)]
    refine W.inl ?_
    unfold ndN
    rw [if_neg c4,if_pos c]
    rfl
   have c5:¬k=5:=by simpa using c
   refine W.ite (fun c=>?_) (fun c=>?_)
   ·have c:k=6:=by simpa using c
    have:=k6 c
    ((with_reducible repeat refine W.a1 d ?_))
    rw [w64i (n:=1+(s.size:Int)) (by omega) (by omega)]
    refine W.inl ?_
    unfold ndN
    rw [if_neg c4,if_neg c5,if_pos c]
    rfl
   ·have c6:¬k=6:=by simpa using c
    refine W.inl ?_
    unfold ndN
    rw [if_neg c4,if_neg c5,if_neg c6]
    rfl
  subst hq
  ((with_reducible repeat refine W.a2 ?_))
  have hnd:=ndN_le hsh
  refine W.wb (specNeed_loop (base:=base) (p:=p) hl20 (fun hne=>by
   by_cases c4:k=4
   ·exact .inl c4
   ·by_cases c5:k=5
    ·exact .inr c5
    ·exact absurd (List.eq_nil_of_length_eq_zero (k0 c4 c5)) hne) hch ih l.length 0 h1 _ (by omega) (by omega) (by omega) (hts.keep d.kb fun _ _ h=>h) d.ge (d.ol (.head _))) ?_
  rintro ⟨o1,o2,h2⟩ ⟨y1,y2,k2⟩
  simp only at y1 y2 k2
  subst y1;subst y2
  refine W.ifT rfl (W.bI rfl (W.ret ⟨?_,kN d.kb k2⟩))
  rw [List.drop_zero,Int.natCast_add]
abbrev PS:=List Int×List ByteArray
def bsL (s:ByteArray):List Int:=s.data.toList.map fun x=>(x.toNat:Int)
theorem bsL_len (s:ByteArray):(bsL s).length=s.size:=by unfold bsL;rw [List.length_map,Array.length_toList];rfl
def ptT (g:PS→Tm→PS×Int×Bool):List Tm→Nat→PS→PS×Bool
 | [],_,p=>(p,true)
 | t :: r,pos,p=>((ptT g r (pos+1) ((g p t).1.1.set pos (g p t).2.1,(g p t).1.2)).1,(g p t).2.2&&(ptT g r (pos+1) ((g p t).1.1.set pos (g p t).2.1,(g p t).1.2)).2)
def ptL (g:PS→Tm→PS×Int×Bool) (fr:Int):List Tm→Nat→PS→PS×Bool
 | [],_,p=>(p,true)
 | t :: r,pos,p=>((ptL g fr r (pos+2) (((g p t).1.1.set pos (g p t).2.1).set (pos+1) (mkW 5 (fr+pos+2)),(g p t).1.2)).1,(g p t).2.2&&(ptL g fr r (pos+2) (((g p t).1.1.set pos (g p t).2.1).set (pos+1) (mkW 5 (fr+pos+2)),(g p t).1.2)).2)
def pt (fr:Int):Nat→PS→Tm→PS×Int×Bool
 | 0,p,_=>(p,0,true)
 | f+1,p,.mk k n s l=>
  if k=1 then (p,mkW 0 (n+1000000),true)
  else if k=2 then ((p.1,(addA p.2 s).1),mkW 1 (addA p.2 s).2,decide ((addA p.2 s).2≥0))
  else if k=3 then (p,mkW 2 n,true)
  else if k=6 then ((p.1++(s.size:Int) :: bsL s,p.2),mkW 6 (fr+p.1.length),true)
  else if k=4 then ((ptT (pt fr f) l (p.1.length+1) (p.1++(l.length:Int) :: List.replicate l.length 0,p.2)).1,mkW 4 (fr+p.1.length),(ptT (pt fr f) l (p.1.length+1) (p.1++(l.length:Int) :: List.replicate l.length 0,p.2)).2)
  else if l = [] then (p,3,true)
  else (((ptL (pt fr f) fr l p.1.length (p.1++List.replicate (2*l.length) 0,p.2)).1.1.set (p.1.length+2*l.length-1) 3,(ptL (pt fr f) fr l p.1.length (p.1++List.replicate (2*l.length) 0,p.2)).1.2),mkW 5 (fr+p.1.length),(ptL (pt fr f) fr l p.1.length (p.1++List.replicate (2*l.length) 0,p.2)).2)
theorem addA_len (l:List ByteArray) (s:ByteArray):(addA l s).1.length≤max l.length 200:=by
 unfold addA
 split
 ·exact Nat.le_max_left _ _
 ·split
  ·exact Nat.le_max_left _ _
  ·split
   ·exact Nat.le_max_left _ _
   ·rename_i h
    have:¬((l.length:Int)≥200):=by simpa using h
    rw [List.length_append]
    simp only [List.length_singleton]
    omega
def PtOk (g:PS→Tm→PS×Int×Bool) (nd:Tm→Nat) (t:Tm):Prop:=∀ p:PS,(g p t).1.1.length=p.1.length+nd t∧(g p t).1.2.length≤max p.2.length 200
theorem ptT_len {g:PS→Tm→PS×Int×Bool} {nd:Tm→Nat}:∀ (l:List Tm) (pos:Nat) (p:PS),(∀ t∈l,PtOk g nd t)→(ptT g l pos p).1.1.length=p.1.length+sumL nd l∧(ptT g l pos p).1.2.length≤max p.2.length 200
 | [],pos,p,_=>⟨rfl,Nat.le_max_left _ _⟩
 | t :: r,pos,p,h=>by
  have a:=h t (.head _) p
  have b:=ptT_len r (pos+1) ((g p t).1.1.set pos (g p t).2.1,(g p t).1.2) fun u hu=>h u (.tail _ hu)
  simp only [List.length_set] at b
  rw [ptT,sumL]
  simp only
  omega
theorem ptL_len {g:PS→Tm→PS×Int×Bool} {nd:Tm→Nat} {fr:Int}:∀ (l:List Tm) (pos:Nat) (p:PS),(∀ t∈l,PtOk g nd t)→(ptL g fr l pos p).1.1.length=p.1.length+sumL nd l∧(ptL g fr l pos p).1.2.length≤max p.2.length 200
 | [],pos,p,_=>⟨rfl,Nat.le_max_left _ _⟩
 | t :: r,pos,p,h=>by
  have a:=h t (.head _) p
  have b:=ptL_len (fr:=fr) r (pos+2) (((g p t).1.1.set pos (g p t).2.1).set (pos+1) (mkW 5 (fr+pos+2)),(g p t).1.2) fun u hu=>h u (.tail _ hu)
  simp only [List.length_set] at b
  rw [ptL,sumL]
  simp only
  omega
theorem pt_ok {fr:Int}:∀ (f:Nat) (t:Tm),Wf f t→PtOk (pt fr f) (needT f) t
 | 0,t,hw=>by obtain ⟨d,x,_,hx⟩:=hw;rw [lk] at hx;omega
 | f+1,.mk k n s l,hw=>fun p=>by
  obtain ⟨hsh,hch⟩:=hw.open
  obtain ⟨ks,k0,_⟩:=sh_kinds hsh
  have ih:∀ t∈l,PtOk (pt fr f) (needT f) t:=fun t ht=>pt_ok f t (hch t ht)
  have leaf:k≠4→k≠5→sumL (needT f) l=0:=fun a b=>by
   have:l = []:=List.eq_nil_of_length_eq_zero (k0 a b)
   subst this;rfl
  rw [pt,needT]
  unfold ndN
  by_cases c1:k=1
  ·rw [if_pos c1,if_neg (by omega),if_neg (by omega),if_neg (by omega),leaf (by omega) (by omega)]
   exact ⟨rfl,Nat.le_max_left _ _⟩
  rw [if_neg c1]
  by_cases c2:k=2
  ·rw [if_pos c2,if_neg (by omega),if_neg (by omega),if_neg (by omega),leaf (by omega) (by omega)]
   exact ⟨rfl,addA_len _ _⟩
  rw [if_neg c2]
  by_cases c3:k=3
  ·rw [if_pos c3,if_neg (by omega),if_neg (by omega),if_neg (by omega),leaf (by omega) (by omega)]
   exact ⟨rfl,Nat.le_max_left _ _⟩
  rw [if_neg c3]
  by_cases c6:k=6
  ·rw [if_pos c6,if_neg (by omega),if_neg (by omega),if_pos c6,leaf (by omega) (by omega)]
   refine ⟨?_,Nat.le_max_left _ _⟩
   simp only [List.length_append,List.length_cons,bsL_len]
   omega
  rw [if_neg c6]
  by_cases c4:k=4
  ·rw [if_pos c4,if_pos c4]
   have:=ptT_len (g:=pt fr f) l (p.1.length+1) (p.1++(l.length:Int) :: List.replicate l.length 0,p.2) ih
   simp only [List.length_append,List.length_cons,List.length_replicate] at this ⊢
   omega
  rw [if_neg c4,if_neg c4,if_pos (show k=5 by omega)]
  by_cases cl:l = []
  ·rw [if_pos cl]
   subst cl
   exact ⟨rfl,Nat.le_max_left _ _⟩
  ·rw [if_neg cl]
   have:=ptL_len (g:=pt fr f) (fr:=fr) l p.1.length (p.1++List.replicate (2*l.length) 0,p.2) ih
   simp only [List.length_append,List.length_replicate,List.length_set] at this ⊢
   omega
abbrev rW (base:Nat) (a:Option Addr) (l:List Int):Rs:=⟨blk a,true,fun y=>Own base 3 y a (iv .i64 l)⟩
theorem setAt_ivs {l:List Int} {j:Nat} {v:Int} (hj:j<l.length):setAt (iv .i64 l) j [.int .i64 v]=iv .i64 (l.set j v):=by
 unfold setAt iv
 rw [List.set_eq_take_append_cons_drop,if_pos hj]
 simp
theorem rep_ivs:∀ n,rep [Value.int .i64 0] n=iv .i64 (List.replicate n 0)
 | 0=>rfl
 | n+1=>by simp only [rep,rep_ivs n];rfl
theorem Hs.setW {base i j:Nat} {V:Fp} {h0 h:AH} {D:Ds} {R:List Rs} {a:Option Addr} {l:List Int} {v:Int} (d:Hs base V h0 h D R) (ei:R[i]? = some (rW base a l)) (hj:j<l.length) :
  ∃ ad h',a=some ad∧Am.wr base h ad.block (ad.off+j) [.int .i64 v]=some h'∧Hs base V h0 h' D (R.set i (rW base a (l.set j v)))∧KB (blk a) h h':=by
 obtain ⟨ad,h',ea,ew,ow,kw,_⟩:=Own.wrA (d.rs ei:Own base 3 h a (iv .i64 l)) (i:=j) (new:=[.int .i64 v]) (by simp;omega) (by simp)
 rw [setAt_ivs hj] at ow
 exact ⟨ad,h',ea,ew,d.upd (r:=rW base a l) (r':=rW base a (l.set j v)) (Upd.at ei) rfl rfl kw (fun b hb=>.inl hb) ow (fun U y y' k hs z=>z.keep k hs) (fun b hb=>.inl hb),kw⟩
theorem Hs.extW {base i m:Nat} {V:Fp} {h0 h:AH} {D:Ds} {R:List Rs} {a:Option Addr} {l new:List Int} {src:Option (List Value)} (d:Hs base V h0 h D R) (ei:R[i]? = some (rW base a l)) (hs:src=some (iv .i64 new)) (hm:new.length=m) (hl:l.length+m≤1000000) :
  ∃ a' h',Am.app base h 3 1 8 a l.length src m=some (.slice a' (l.length+m) (l.length+m),h')∧Hs base V h0 h' D (R.set i (rW base a' (l++new)))∧KB (blk a) h h':=by
 obtain ⟨a',h',e,d,k⟩:=d.appN (i:=i) (n:=l.length) (m:=m) (sz:=1) (bytes:=8) ei (fun b hb=>hb) (by simp) (by decide) hs (by omega) (by omega) (by simp [hm])
 rw [iv_append] at d
 exact ⟨a',h',e,d,k⟩
theorem Hs.sw4 {base:Nat} {V:Fp} {h0 h:AH} {D:Ds} {x y z c:Rs} (d:Hs base V h0 h D [x,y,z,c]):Hs base V h0 h D [c,y,z,x]:=by
 have d:=d.frontR (Del.at (i:=2) rfl)
 have d:=d.frontR (Del.at (i:=2) rfl)
 exact d.frontR (Del.at (i:=3) rfl)
abbrev rTR (P:Fp) (f:Nat) (t:Tm) (cs:List Value):Rs:=⟨P,false,fun y=>TmR y P f t cs⟩
abbrev rTSR (P:Fp) (f:Nat) (l:List Tm) (a:Option Addr):Rs:=⟨P,false,fun y=>TsR y P f l a⟩
theorem imP {P:Fp} {A B:AH→Prop} {y z:Rs} (hy:y.mu=true) (hz:z.mu=true) {R1:List Rs}:∀ r∈[(⟨P,false,A⟩:Rs),y,z],r.mu=false→∃ r0∈(⟨P,false,B⟩:Rs) :: R1,r0.mu=false∧r0.S=r.S:=by
 intro r hr hm
 simp only [List.mem_cons,List.not_mem_nil,or_false] at hr
 rcases hr with rfl|rfl|rfl
 ·exact ⟨_,.head _,rfl,rfl⟩
 ·rw [hy] at hm;cases hm
 ·rw [hz] at hm;cases hm
theorem mget_some' {h:AH} {b:Nat} {m:List (Int×Int)} (e:mget h b=some m):∃ k,hget h b=some k∧k.m=some m:=by
 unfold mget at e
 cases hk:hget h b with
 | none=>rw [hk] at e;cases e
 | some k=>rw [hk] at e;exact ⟨k,rfl,e⟩
theorem mget_keep {U:Fp} {h h':AH} {b:Nat} {m:List (Int×Int)} (k:KB U h h') (hU:¬U b) (e:mget h b=some m):mget h' b=some m:=by
 obtain ⟨kk,hk,hm⟩:=mget_some' e
 unfold mget at e ⊢
 rw [k.2 _ (hget_lt hk) hU]
 exact e
abbrev rMp (mb:Nat) (m:List (Int×Int)):Rs:=⟨(· = mb),true,fun y=>mget y mb=some m⟩
theorem rMp_ok (mb:Nat) (m:List (Int×Int)):(rMp mb m).Ok:=fun U h h' k hs e=>mget_keep k (hs mb rfl) e
theorem Hs.setM {base i mb:Nat} {V:Fp} {h0 h:AH} {D:Ds} {R:List Rs} {m:List (Int×Int)} (d:Hs base V h0 h D R) (ei:R[i]? = some (rMp mb m)) (m':List (Int×Int)):Hs base V h0 (h.set mb (some (mblk m'))) D (R.set i (rMp mb m')):=by
 obtain ⟨k,hk,_⟩:=mget_some' (d.rs ei:mget h mb=some m)
 exact d.upd (r:=rMp mb m) (r':=rMp mb m') (Upd.at ei) rfl rfl (KB.set (S:=(· = mb)) _ rfl) (fun b hb=>.inl hb) (by
  show mget _ mb=_
  unfold mget
  rw [hget_set_self (hget_lt hk)];rfl) (rMp_ok mb m') (fun b hb=>.inl hb)
theorem Hs.newM {base:Nat} {V:Fp} {h0 h:AH} {D:Ds} {R:List Rs} (d:Hs base V h0 h D R):Hs base V h0 (h++[some (mblk [])]) D (R++[rMp h.length []]):=
 d.call (KB.push _ _ _) (· = h.length) (fun y=>mget y h.length=some []) (by unfold mget;rw [hget_append_new];rfl) (rMp_ok h.length []) (fun b hb=>by subst hb;simp)
abbrev swV (oa ya:Option Addr) (G:Gn) (all:Bool) (a b:Option Addr) (σ:Sw) (mb:Nat):List Value:=[.slice oa G.old.length G.old.length,.slice ya G.young.length G.young.length,.int .i64 G.mark,.bool all,.slice a σ.old.length σ.old.length,.slice b σ.young.length σ.young.length,.map (some mb)]
def WR (m:List (Int×Int)) (σ:Sw):Prop:=∀ p,mfind m p=σ.wn p
theorem mfind_put (p v:Int):∀ (m:List (Int×Int)) (q:Int),mfind (mput m p v) q=if q=p then some v else mfind m q
 | [],q=>by simp [mput,mfind]
 | (a,b) :: r,q=>by
  simp only [mput]
  by_cases e:p=a
  ·subst e
   rw [if_pos rfl,mfind,mfind]
   split<;>rfl
  ·rw [if_neg e,mfind,mfind,mfind_put p v r q]
   by_cases e2:q=a
   ·subst e2
    rw [if_pos rfl,if_pos rfl,if_neg (Ne.symm e)]
   ·rw [if_neg e2,if_neg e2]
theorem WR.put {m:List (Int×Int)} {σ:Sw} (x:WR m σ) (p v:Int):WR (mput m p v) (σ.put p v):=fun q=>by
 rw [mfind_put]
 show _=if q=p then some v else σ.wn q
 rw [x q]
abbrev swD (sb:Nat) (oa ya:Option Addr) (G:Gn) (all:Bool) (a b:Option Addr) (σ:Sw) (mb:Nat):Ds:=[(sb,119,swV oa ya G all a b σ mb)]
abbrev swR (base:Nat) (S:Fp) (mu:Bool) (A:AH→Prop) (a b:Option Addr) (σ:Sw) (mb:Nat) (m:List (Int×Int)):List Rs:=[⟨S,mu,A⟩,rW base a σ.old,rW base b σ.young,rMp mb m]
def CwR (base sb mb:Nat) (oa ya:Option Addr) (G:Gn) (all:Bool) (n:Nat):Prop:=∀ (w:Int) (σ:Sw) (m:List (Int×Int)) (a b:Option Addr) (S V:Fp) (mu:Bool) (A:AH→Prop) (h0 h:AH),wOk w→Fue G n w→WR m σ→σ.In→(∀ y,A y→GnO base y oa ya G) →
 Hs base V h0 h (swD sb oa ya G all a b σ mb) (swR base S mu A a b σ mb m) →
 Wp (run (Et base) 97 [.pointer (at0 sb),.int .i64 w] h) fun o=>o.1 = .int .i64 (cp false G all n w σ).1∧∃ m' a' b',WR m' (cp false G all n w σ).2∧Hs base V h0 o.2 (swD sb oa ya G all a' b' (cp false G all n w σ).2 mb) (swR base S mu A a' b' (cp false G all n w σ).2 mb m')
theorem gmB {base sb mb:Nat} {oa ya a b:Option Addr} {G:Gn} {all:Bool} {σ:Sw} {S V:Fp} {mu:Bool} {A:AH→Prop} {h0 h:AH} {D:Ds} {R:List Rs} (hA:∀ y,A y→GnO base y oa ya G) (d:Hs base V h0 h ((sb,119,swV oa ya G all a b σ mb) :: D) (⟨S,mu,A⟩ :: R)):GmB base sb oa ya G h:=
 ⟨d.getI (o:=0) (.head _) rfl,d.getI (o:=1) (.head _) rfl,d.getI (o:=2) (.head _) rfl,hA _ (d.rs (i:=0) rfl)⟩
theorem cw_loop {base sb mb n k at_:Nat} {oa ya:Option Addr} {G:Gn} {all o:Bool} {w W0:Int} {S V:Fp} {mu:Bool} {A:AH→Prop} {h0:AH} (hG:G.Ok) (ho:G.old.length≤1000) (hy:G.young.length≤1000) (hw:wOk w) (hk:wid G w=(k:Int)) (hk41:k≤41) (hat:at_≤101000) (hf:∀ x∈chW G w,Fue G n x) (hA:∀ y,A y→GnO base y oa ya G) (ih:CwR base sb mb oa ya G all n) :
  ∀ (r i:Nat) (h:AH) (σ:Sw) (m:List (Int×Int)) (a b:Option Addr),i+r=k→at_+k≤σ.len o→WR m σ→σ.In→Hs base V h0 h (swD sb oa ya G all a b σ mb) (swR base S mu A a b σ mb m) →
  Wp (loopL (B97_0 base) [some (.pointer (at0 sb)),some (.int .i64 w),some (.int .i64 (at_:Int)),some (.bool o),some (.int .i64 W0),some (.int .i64 (k:Int)),some (.int .i64 (i:Int))] h) fun q=>q.1=2∧q.2.1 = [some (.int .i64 W0)]∧∃ m' a' b',WR m' (cpLoop G w o at_ (cp false G all n) r i σ)∧Hs base V h0 q.2.2 (swD sb oa ya G all a' b' (cpLoop G w o at_ (cp false G all n) r i σ) mb) (swR base S mu A a' b' (cpLoop G w o at_ (cp false G all n) r i σ) mb m'):=by
 have vnn:=valW_nn w
 have vle:=valW_le hw
 intro r
 induction r with
 | zero=>
  intro i h σ m a b hi hl hWR hin d
  suffices w1:Wp (B97_0 base [some (.pointer (at0 sb)),some (.int .i64 w),some (.int .i64 (at_:Int)),some (.bool o),some (.int .i64 W0),some (.int .i64 (k:Int)),some (.int .i64 (i:Int))] h) fun q=>q=(2,[some (.int .i64 W0)],h) by
   obtain ⟨q,e,rfl⟩:=w1
   exact ⟨_,loop_off (by decide) e,rfl,rfl,m,a,b,hWR,d⟩
  rw [B97_0_eq]
  exact W.ifF (by simp;omega) (W.ret rfl)
 | succ r ihr=>
  intro i h σ m a b hi hl hWR hin d
  rw [cpLoop_step]
  suffices w1:Wp (B97_0 base [some (.pointer (at0 sb)),some (.int .i64 w),some (.int .i64 (at_:Int)),some (.bool o),some (.int .i64 W0),some (.int .i64 (k:Int)),some (.int .i64 (i:Int))] h) fun q=>q.1=0∧q.2.1 = [some (.pointer (at0 sb)),some (.int .i64 w),some (.int .i64 (at_:Int)),some (.bool o),some (.int .i64 W0),some (.int .i64 (k:Int)),some (.int .i64 ((i:Int)+1))]∧∃ m' a' b',WR m' ((stepX false G all n w i σ).2.set o (at_+i) (stepX false G all n w i σ).1)∧Hs base V h0 q.2.2 (swD sb oa ya G all a' b' ((stepX false G all n w i σ).2.set o (at_+i) (stepX false G all n w i σ).1) mb) (swR base S mu A a' b' ((stepX false G all n w i σ).2.set o (at_+i) (stepX false G all n w i σ).1) mb m') by
   obtain ⟨⟨o1,o2,h'⟩,e,y1,y2,m',a',b',y3,d'⟩:=w1
   simp only at y1 y2 d'
   subst y1;subst y2
   have hX:(stepX false G all n w i σ).2.In∧∀ p,σ.len p≤(stepX false G all n w i σ).2.len p:=by
    unfold stepX
    split
    ·rename_i c
     exact ⟨cp_in ho hy n _ σ (hf _ (chW_at (by omega) c)) hin,fun p=>cp_len p⟩
    ·exact ⟨hin,fun _=>Nat.le_refl _⟩
   obtain ⟨q,eq,z⟩:=ihr (i+1) h' _ m' a' b' (by omega) (by rw [Sw.len_set];have:=hX.2 o;omega) y3 (hX.1.set _ _ _) d'
   exact ⟨q,loop_on e eq,z⟩
  rw [B97_0_eq]
  refine W.ifT (decide_eq_true (by omega)) ?_
  ((with_reducible repeat refine W.bo ?_))
  refine W.bs (implVal_run hw.2) ?_
  ((with_reducible repeat refine W.a2 ?_))
  rw [w64i (n:=valW w+(i:Int)) (by omega) (by omega)]
  refine W.bs (wordAt_run hG (by omega) (gmB hA d)) ?_
  ((with_reducible repeat first|refine W.a2 ?_|refine W.a3 ?_))
  generalize hX:stepX false G all n w i σ=X
  refine W.jP (L:=[some (.pointer (at0 sb)),some (.int .i64 w),some (.int .i64 (at_:Int)),some (.bool o),some (.int .i64 W0),some (.int .i64 (i:Int)),some (.int .i64 X.1),some (.int .i64 (k:Int)),some (.int .i64 (i:Int))]) (fun y=>∃ m' a' b',WR m' X.2∧Hs base V h0 y (swD sb oa ya G all a' b' X.2 mb) (swR base S mu A a' b' X.2 mb m')) ?_ ?_
  ·apply W.jb (isPt w i) d
   ·refine W.bs implTag_run ?_
    ((with_reducible repeat refine W.a2 ?_))
    unfold isPt
    refine W.ite (fun c=>?_) (fun c=>?_)
    ·exact W.lb rfl (by rw [c];rfl) (KB.refl _ _)
    refine W.bs implTag_run ?_
    ((with_reducible repeat refine W.a2 ?_))
    have c:(tagW w==5)=false:=by simpa using c
    refine W.ite (fun c2=>?_) (fun c2=>?_)
    ·exact W.lb rfl (by rw [c,c2];simp) (KB.refl _ _)
    ·have c2:(tagW w==4)=false:=by simpa using c2
     exact W.lb rfl (by rw [c,c2];rfl) (KB.refl _ _)
   intro h1 d n1
   ((with_reducible repeat refine W.a2 ?_))
   unfold stepX at hX
   refine W.ite (fun c=>?_) (fun c=>?_)
   ·rw [if_pos c] at hX
    subst hX
    have hm:=chW_at (G:=G) (w:=w) (i:=i) (by omega) c
    refine W.wb (ih _ σ m a b S V mu A h0 h1 (chW_ok hG hm) (hf _ hm) hWR hin hA d) ?_
    rintro ⟨u,h2⟩ ⟨y1,m',a',b',y2,d2⟩
    simp only at y1 d2
    subst y1
    ((with_reducible repeat refine W.a2 ?_))
    exact W.inl ⟨rfl,m',a',b',y2,d2⟩
   ·rw [if_neg c] at hX
    subst hX
    exact W.inl ⟨rfl,m,a,b,hWR,d⟩
  rintro h2 ⟨m',a',b',hWR',d⟩
  have hle:at_+i<X.2.len o:=by
   have:σ.len o≤X.2.len o:=by
    rw [← hX]
    unfold stepX
    split
    ·exact cp_len o
    ·exact Nat.le_refl _
   omega
  ((with_reducible repeat refine W.a2 ?_))
  cases o with
  | true=>
   refine W.ifT rfl ?_
   ((with_reducible repeat first|refine W.a1 d ?_|refine W.bo ?_))
   dsimp only
   rw [w64i (n:=(at_:Int)+(i:Int)) (by omega) (by omega),w64i (n:=(i:Int)+1) (by omega) (by omega)]
   rw [show (at_:Int)+(i:Int)=((at_+i:Nat):Int) from by omega,Int.toNat_natCast]
   refine W.ifT ⟨by omega,by have:at_+i<X.2.old.length:=hle;omega⟩ ?_
   obtain ⟨ad,h3,rfl,e3,d,_⟩:=d.setW (i:=1) (j:=at_+i) (v:=X.1) rfl hle
   refine W.bs rfl ?_
   rw [Nat.mul_one]
   refine W.bs e3 (W.ret ⟨rfl,rfl,m',some ad,b',hWR',?_⟩)
   have el:X.2.old.length=(X.2.old.set (at_+i) X.1).length:=by simp
   dsimp only [swD,swV] at d
   rw [el] at d
   exact d
  | false=>
   refine W.ifF (by decide) ?_
   ((with_reducible repeat first|refine W.a1 d ?_|refine W.bo ?_))
   dsimp only
   rw [w64i (n:=(at_:Int)+(i:Int)) (by omega) (by omega),w64i (n:=(i:Int)+1) (by omega) (by omega)]
   rw [show (at_:Int)+(i:Int)=((at_+i:Nat):Int) from by omega,Int.toNat_natCast]
   refine W.ifT ⟨by omega,by have:at_+i<X.2.young.length:=hle;omega⟩ ?_
   obtain ⟨ad,h3,rfl,e3,d,_⟩:=d.setW (i:=2) (j:=at_+i) (v:=X.1) rfl hle
   refine W.bs rfl ?_
   rw [Nat.mul_one]
   refine W.bs e3 (W.ret ⟨rfl,rfl,m',a',some ad,hWR',?_⟩)
   have el:X.2.young.length=(X.2.young.set (at_+i) X.1).length:=by simp
   dsimp only [swD,swV] at d
   rw [el] at d
   exact d
theorem cw_succ {base sb mb n:Nat} {oa ya:Option Addr} {G:Gn} {all:Bool} (hG:G.Ok) (ho:G.old.length≤1000) (hy:G.young.length≤1000) (ih:CwR base sb mb oa ya G all n):CwR base sb mb oa ya G all (n+1):=by
 intro w σ m a b S V mu A h0 h hw hf hWR hin hA d
 have vnn:=valW_nn w
 have vle:=valW_le hw
 have hv:wOk (valW w):=⟨by omega,by omega⟩
 refine W.of (fun r hx=>Am.r97 hx) ?_
 ((with_reducible repeat refine W.bo ?_))
 refine W.bs (implVal_run hw.2) ?_
 ((with_reducible repeat refine W.a2 ?_))
 refine W.bs (part_run hv (gmB hA d)) ?_
 ((with_reducible repeat refine W.a2 ?_))
 apply W.jb (stay G all w) d
 ·refine W.bs leads_run ?_
  ((with_reducible repeat refine W.a2 ?_))
  unfold stay
  refine W.ite (fun c=>?_) (fun c=>?_)
  ·exact W.lb rfl (by simp at c;simp [c]) (KB.refl _ _)
  have c:leadW w=true:=by simpa using c
  refine W.ite (fun c2=>?_) (fun c2=>?_)
  ·((with_reducible repeat first|refine W.a1 d ?_|refine W.bo ?_))
   exact W.lb rfl (by simp [c,c2]) (KB.refl _ _)
  ·exact W.lb rfl (by simp at c2;simp [c,c2]) (KB.refl _ _)
 intro h1 d n1
 ((with_reducible repeat refine W.a2 ?_))
 rw [cp]
 refine W.ite (fun c=>?_) (fun c=>?_)
 ·rw [if_pos c]
  exact W.ret ⟨rfl,m,a,b,hWR,d⟩
 rw [if_neg c]
 have hl:leadW w=true:=by
  unfold stay at c
  cases e:leadW w with
  | true=>rfl
  | false=>rw [e] at c;exact absurd rfl c
 obtain ⟨wd1,wd2⟩:=wid_le hf.1 hl
 ((with_reducible repeat first|refine W.a1 d ?_|refine W.bo ?_))
 refine W.bs (implVal_run hw.2) ?_
 ((with_reducible repeat first|refine W.a2 ?_|refine W.a6 d ?_))
 refine W.bs (d.rs (i:=3) rfl:mget h1 mb=some m) ?_
 rw [hWR]
 cases e:σ.wn (valW w) with
 | some v=>
  refine W.ifT rfl ?_
  refine W.bs implTag_run ?_
  ((with_reducible repeat refine W.a2 ?_))
  refine W.bs implMk_run ?_
  ((with_reducible repeat refine W.a2 ?_))
  exact W.ret ⟨rfl,m,a,b,hWR,d⟩
 | none=>
 refine W.ifF (by decide) ?_
 ((with_reducible repeat refine W.bo ?_))
 refine W.bs (widthOf_run hG hw (fun h5=>?_) (gmB hA d)) ?_
 ·have:=wd1;have:=wd2
  unfold wid at wd1 wd2
  rw [if_neg h5] at wd1 wd2
  omega
 ((with_reducible repeat refine W.a2 ?_))
 apply W.jb (toO G all w) d
 ·((with_reducible repeat first|refine W.a1 d ?_|refine W.bo ?_))
  unfold toO
  refine W.ite (fun c=>?_) (fun c=>?_)
  ·exact W.lb rfl (by rw [c];rfl) (KB.refl _ _)
  ·exact W.lb rfl (by simp at c;simp [c]) (KB.refl _ _)
 intro h2 d n2
 ((with_reducible repeat refine W.a2 ?_))
 obtain ⟨k,hk⟩:∃ k:Nat,wid G w=(k:Int):=⟨(wid G w).toNat,by omega⟩
 rw [hk]
 generalize hO:toO G all w=o
 have hlen:=hin.le o
 refine W.jP (L:=[some (.pointer (at0 sb)),some (.int .i64 w),some (.int .i64 (k:Int)),some (.int .i64 (σ.len o:Int)),some (.bool o)]) (fun y=>∃ a' b',Hs base V h0 y (swD sb oa ya G all a' b' (σ.app o (List.replicate k 0)) mb) (swR base S mu A a' b' (σ.app o (List.replicate k 0)) mb m)) ?_ ?_
 ·cases o with
  | true=>
   refine W.ifT rfl ?_
   ((with_reducible repeat first|refine W.a1 d ?_|refine W.bo ?_))
   refine W.ifT ⟨by omega,by omega⟩ ?_
   obtain ⟨a',h3,e3,d,k3⟩:=d.extW (i:=1) (m:=k) (new:=List.replicate k 0) (src:=some (rep [Value.int .i64 0] k)) rfl (by rw [rep_ivs]) (by simp) (by have:σ.old.length≤101000:=hlen;omega)
   simp only [Int.toNat_natCast]
   refine W.bs e3 ?_
   ((try simp only [n1,n2,n3,n4,n5,n6] at d);(with_reducible repeat first|refine W.a2 ?_|refine W.bo ?_|refine W.a5 d fun hw d lw kw=>?_))
   have el:σ.old.length+k=(σ.old++List.replicate k 0).length:=by simp
   rw [el] at d
   exact W.inl ⟨rfl,a',b,d⟩
  | false=>
   refine W.ifF (by decide) ?_
   ((with_reducible repeat first|refine W.a1 d ?_|refine W.bo ?_))
   refine W.ifT ⟨by omega,by omega⟩ ?_
   obtain ⟨b',h3,e3,d,k3⟩:=d.extW (i:=2) (m:=k) (new:=List.replicate k 0) (src:=some (rep [Value.int .i64 0] k)) rfl (by rw [rep_ivs]) (by simp) (by have:σ.young.length≤101000:=hlen;omega)
   simp only [Int.toNat_natCast]
   refine W.bs e3 ?_
   ((try simp only [n1,n2,n3,n4,n5,n6] at d);(with_reducible repeat first|refine W.a2 ?_|refine W.bo ?_|refine W.a5 d fun hw d lw kw=>?_))
   have el:σ.young.length+k=(σ.young++List.replicate k 0).length:=by simp
   rw [el] at d
   exact W.inl ⟨rfl,a,b',d⟩
 rintro h3 ⟨a1,b1,d⟩
 ((with_reducible repeat refine W.a2 ?_))
 refine W.jP (L:=[some (.pointer (at0 sb)),some (.int .i64 w),some (.int .i64 (k:Int)),some (.int .i64 (σ.len o:Int)),some (.bool o),some (.int .i64 (plc o (σ.len o)))]) (· = h3) ?_ ?_
 ·cases o with
  | true=>exact W.ifF (by decide) (W.inl ⟨rfl,rfl⟩)
  | false=>
   refine W.ifT rfl ?_
   rw [w64i (n:=(σ.len false:Int)+100000) (by omega) (by omega)]
   rw [show (σ.len false:Int)+100000=plc false (σ.len false) from by unfold plc;rw [if_neg (by decide)];omega]
   exact W.inl ⟨rfl,rfl⟩
 rintro h4 rfl
 ((with_reducible repeat refine W.a2 ?_))
 refine W.bs implTag_run ?_
 ((with_reducible repeat refine W.a2 ?_))
 refine W.bs implMk_run ?_
 ((with_reducible repeat first|refine W.a1 d ?_|refine W.a2 ?_|refine W.bo ?_))
 refine W.bs (implVal_run hw.2) ?_
 ((with_reducible repeat first|refine W.a2 ?_|refine W.a6 d ?_))
 refine W.bs (d.rs (i:=3) rfl:mget h4 mb=some m) ?_
 have d:=d.setM (i:=3) rfl (mput m (valW w) (plc o (σ.len o)))
 refine W.bs rfl ?_
 have hkn:(wid G w).toNat=k:=by omega
 have hkk:((k:Int)).toNat=k:=by omega
 simp only [hkk,if_neg (show ¬(false=true) by decide)]
 have hgrow:((σ.app o (List.replicate k 0)).put (valW w) (plc o (σ.len o))).In:=hin.grow (by simp;omega) (hf.1.pl ho hy hl) e
 refine W.wb (cw_loop (W0:=mkW (tagW w) (plc o (σ.len o))) hG ho hy hw hk (by omega) hlen hf.2 hA ih k 0 _ ((σ.app o (List.replicate k 0)).put (valW w) (plc o (σ.len o))) (mput m (valW w) (plc o (σ.len o))) a1 b1 (by omega) (by rw [Sw.len_put,Sw.len_app];simp) (WR.put (fun p=>by rw [hWR];cases o<;>rfl) _ _) hgrow d) ?_
 rintro ⟨q1,q2,h5⟩ ⟨y1,y2,m',a',b',y3,d5⟩
 simp only at y1 y2 d5
 subst y1;subst y2
 refine W.ifT rfl ?_
 ((try simp only [n1,n2,n3,n4,n5,n6] at d);(with_reducible repeat refine W.a2 ?_))
 exact W.ret ⟨rfl,m',a',b',y3,d5⟩
theorem cw_all {base sb mb:Nat} {oa ya:Option Addr} {G:Gn} {all:Bool} (hG:G.Ok) (ho:G.old.length≤1000) (hy:G.young.length≤1000):∀ n,CwR base sb mb oa ya G all n
 | 0=>fun w σ m a b S V mu A h0 h _ hf=>hf.elim
 | n+1=>cw_succ hG ho hy (cw_all hG ho hy n)
theorem pt_list {fr:Int} {f:Nat} {p:PS} {l:List Tm} {k n:Int} {s:ByteArray} (hk:k≠1∧k≠2∧k≠3∧k≠6∧k≠4):pt fr (f+1) p (.mk k n s l)=if l = [] then (p,3,true) else (((ptL (pt fr f) fr l p.1.length (p.1++List.replicate (2*l.length) 0,p.2)).1.1.set (p.1.length+2*l.length-1) 3,(ptL (pt fr f) fr l p.1.length (p.1++List.replicate (2*l.length) 0,p.2)).1.2),mkW 5 (fr+p.1.length),(ptL (pt fr f) fr l p.1.length (p.1++List.replicate (2*l.length) 0,p.2)).2):=by
 obtain ⟨a,b,c,d,e⟩:=hk
 rw [pt,if_neg a,if_neg b,if_neg c,if_neg d,if_neg e]
theorem Hs.pk5 {base:Nat} {V:Fp} {h0 h:AH} {D:Ds} {x y z c e:Rs} (d:Hs base V h0 h D [x,y,z,c,e]):Hs base V h0 h D [x,y,e]:=by
 have d:=(d.frontR (Del.at (i:=4) rfl)).takeR 3
 have d:=d.frontR (Del.at (i:=1) rfl)
 have d:=d.frontR (Del.at (i:=2) rfl)
 exact d.frontR (Del.at (i:=1) rfl)
abbrev wsD (wt wb sb:Nat) (a:Option Addr) (n:Nat) (aa:Option Addr) (m:Nat):Ds:=[(wb,wt,[.slice a n n]),(sb,59,[.slice aa m m])]
def SPutR (base:Nat) (f:Nat):Prop:=∀ (wt wb sb:Nat) (P:Fp) (t:Tm) (cs:List Value) (w:List Int) (ats:List ByteArray) (a aa:Option Addr) (V:Fp) (h0 h:AH),Wf f t→w.length+needT f t≤100000→ats.length≤1048576 →
 Hs base V h0 h (wsD wt wb sb a w.length aa ats.length) [rTR P f t cs,rW base a w,rSt base aa ats] →
 Wp (run (Et base) 214 [.pointer (at0 wb),.pointer (at0 sb),.agg cs.toArray] h) fun o=>∃ a' aa',o.1 = .tuple #[.int .i64 (pt 0 f (w,ats) t).2.1,.bool (pt 0 f (w,ats) t).2.2]∧Hs base V h0 o.2 (wsD wt wb sb a' (pt 0 f (w,ats) t).1.1.length aa' (pt 0 f (w,ats) t).1.2.length) [rTR P f t cs,rW base a' (pt 0 f (w,ats) t).1.1,rSt base aa' (pt 0 f (w,ats) t).1.2]
theorem Hs.app1W {base i nb n:Nat} {V:Fp} {h0 h:AH} {D:Ds} {R:List Rs} {a:Option Addr} {l:List Int} {v:Int} (d:Hs base V h0 h ((nb,3,[.int .i64 v]) :: D) R) (ei:R[i]? = some (rW base a l)) (hn:l.length=n) (hl:n+1≤1000000) :
  ∃ a' h',Am.app base h 3 1 8 a n (rawAt h (at0 nb) (1*1)) 1=some (.slice a' (n+1) (n+1),h')∧Hs base V h0 h' ((nb,3,[.int .i64 v]) :: D) (R.set i (rW base a' (l++[v]))):=by
 obtain ⟨a5,h5,e5,d,q5,k5,_⟩:=d.app1O (w:=1) (i:=i) (n:=n) (bytes:=8) ei (fun b hb=>hb) (.head _) rfl (by decide) (by simp [hn]) rfl (by omega) (by omega)
 refine ⟨a5,h5,e5,?_⟩
 have e:iv .i64 l++[Value.int .i64 v]=iv .i64 (l++[v]):=by simp [iv]
 rw [e] at d
 exact d
theorem sputBin_loop {base wt wb sb tb:Nat} {x:Rs} {ats:List ByteArray} {aa:Option Addr} {V:Fp} {h0:AH} {k n:Int} {s:ByteArray} {ta:Option Addr} {m:Nat} {w0:List Int} (hs:s.size≤40) (hw:w0.length≤100000):∀ (r i:Nat) (h:AH) (a:Option Addr),i+r=s.size→Hs base V h0 h (wsD wt wb sb a (w0++(s.size:Int) :: (bsL s).take i).length aa ats.length++[(tb,42,termV k n s ta m)]) [x,rW base a (w0++(s.size:Int) :: (bsL s).take i),rSt base aa ats] →
  Wp (loopL (B214_0 base) [some (.pointer (at0 wb)),some (.pointer (at0 tb)),some (.int .i64 (w0.length:Int)),some (.int .i64 (i:Int))] h) fun o=>∃ a',o.1=3∧o.2.1 = [some (.int .i64 (w0.length:Int))]∧Hs base V h0 o.2.2 (wsD wt wb sb a' (w0++(s.size:Int) :: bsL s).length aa ats.length) [x,rW base a' (w0++(s.size:Int) :: bsL s),rSt base aa ats]:=by
 have hbl:=bsL_len s
 intro r
 induction r with
 | zero=>
  intro i h a hi d
  suffices w1:Wp (B214_0 base [some (.pointer (at0 wb)),some (.pointer (at0 tb)),some (.int .i64 (w0.length:Int)),some (.int .i64 (i:Int))] h) fun o=>o=(3,[some (.int .i64 (w0.length:Int))],h) by
   obtain ⟨o,e,rfl⟩:=w1
   refine ⟨_,loop_off (by decide) e,a,rfl,rfl,?_⟩
   rw [List.take_of_length_le (by omega)] at d
   exact d.takeD 2
  rw [B214_0_eq]
  ((try simp only [n1,n2,n3,n4,n5,n6] at d);(with_reducible repeat refine W.a1 d ?_))
  exact W.ifF (by simp;omega) (W.ret rfl)
 | succ r ihr=>
  intro i h a hi d
  have hlt:i<(bsL s).length:=by omega
  suffices w1:Wp (B214_0 base [some (.pointer (at0 wb)),some (.pointer (at0 tb)),some (.int .i64 (w0.length:Int)),some (.int .i64 (i:Int))] h) fun o=>∃ a',o.1=0∧o.2.1 = [some (.pointer (at0 wb)),some (.pointer (at0 tb)),some (.int .i64 (w0.length:Int)),some (.int .i64 ((i+1:Nat):Int))]∧Hs base V h0 o.2.2 (wsD wt wb sb a' (w0++(s.size:Int) :: (bsL s).take (i+1)).length aa ats.length++[(tb,42,termV k n s ta m)]) [x,rW base a' (w0++(s.size:Int) :: (bsL s).take (i+1)),rSt base aa ats] by
   obtain ⟨⟨o1,o2,h'⟩,e,a',y1,y2,d'⟩:=w1
   simp only at y1 y2 d'
   subst y1;subst y2
   obtain ⟨o,eo,q⟩:=ihr (i+1) h' a' (by omega) d'
   exact ⟨o,loop_on e eo,q⟩
  have hv:IntKind.wrap .i64 ((s.data.toList.getD (Int.toNat (i:Int)) 0).toNat:Int)=(bsL s)[i]:=by
   have hd:i<s.data.toList.length:=by rw [Array.length_toList];exact Nat.lt_of_lt_of_le hlt (by rw [hbl];exact Nat.le_refl _)
   have e1:(bsL s)[i]=((s.data.toList[i]).toNat:Int):=List.getElem_map _
   rw [Int.toNat_natCast,List.getD_eq_getElem?_getD,List.getElem?_eq_getElem hd,Option.getD_some,e1]
   have:=(s.data.toList[i]).toNat_lt
   exact w64i (by omega) (by omega)
  have et:w0++(s.size:Int) :: (bsL s).take (i+1)=(w0++(s.size:Int) :: (bsL s).take i)++[(bsL s)[i]]:=by
   rw [List.take_succ_eq_append_getElem hlt,List.append_assoc]
   rfl
  have hlen:(w0++(s.size:Int) :: (bsL s).take i).length≤100100:=by
   simp;omega
  rw [et]
  rw [B214_0_eq]
  generalize hg:w0++(s.size:Int) :: (bsL s).take i=g at d hlen ⊢
  ((try simp only [n1,n2,n3,n4,n5,n6] at d);(with_reducible repeat refine W.a1 d ?_))
  refine W.ifT (decide_eq_true (by omega)) ?_
  ((with_reducible repeat first|refine W.a1 d ?_|refine W.bo ?_|refine W.a7 ?_|refine W.a8 ?_);(refine W.nD d fun h2 d _ kh2=>?_))
  rw [hv] at d
  obtain ⟨a5,h5,e5,d⟩:=d.app1W (i:=1) rfl rfl (by omega)
  refine W.bs e5 ?_
  ((try simp only [n1,n2,n3,n4,n5,n6] at d);(with_reducible repeat first|refine W.a2 ?_|refine W.bo ?_|refine W.a5 d fun hw d lw kw=>?_))
  rw [w64i (n:=(i:Int)+1) (by omega) (by omega)]
  refine W.ret ⟨a5,rfl,rfl,?_⟩
  rw [show (g++[(bsL s)[i]]).length=g.length+1 from by simp]
  exact d.tl
theorem sputTup_loop {base wt wb sb tb f at_:Nat} {P:Fp} {k n:Int} {s:ByteArray} {l:List Tm} {al:Option Addr} {V:Fp} {h0:AH} (hl:l.length≤20) (hw:∀ t∈l,Wf f t) (ih:SPutR base f):∀ (r i:Nat) (h:AH) (w:List Int) (ats:List ByteArray) (a aa:Option Addr) (ok:Bool),i+r=l.length→at_+1+l.length≤w.length→w.length+sumL (needT f) (l.drop i)≤100000→ats.length≤1048576→Hs base V h0 h (wsD wt wb sb a w.length aa ats.length++[(tb,42,termV k n s al l.length)]) [rTSR P f l al,rW base a w,rSt base aa ats] →
  Wp (loopL (B214_1 base) [some (.pointer (at0 wb)),some (.pointer (at0 sb)),some (.pointer (at0 tb)),some (.int .i64 (at_:Int)),some (.bool ok),some (.int .i64 (i:Int))] h) fun o=>∃ a' aa',o.1=5∧o.2.1 = [some (.int .i64 (at_:Int)),some (.bool (ok&&(ptT (pt 0 f) (l.drop i) (at_+1+i) (w,ats)).2))]∧Hs base V h0 o.2.2 (wsD wt wb sb a' (ptT (pt 0 f) (l.drop i) (at_+1+i) (w,ats)).1.1.length aa' (ptT (pt 0 f) (l.drop i) (at_+1+i) (w,ats)).1.2.length) [rTSR P f l al,rW base a' (ptT (pt 0 f) (l.drop i) (at_+1+i) (w,ats)).1.1,rSt base aa' (ptT (pt 0 f) (l.drop i) (at_+1+i) (w,ats)).1.2]:=by
 intro r
 induction r with
 | zero=>
  intro i h w ats a aa ok hi hat hn hal d
  suffices w1:Wp (B214_1 base [some (.pointer (at0 wb)),some (.pointer (at0 sb)),some (.pointer (at0 tb)),some (.int .i64 (at_:Int)),some (.bool ok),some (.int .i64 (i:Int))] h) fun o=>o=(5,[some (.int .i64 (at_:Int)),some (.bool ok)],h) by
   obtain ⟨o,e,rfl⟩:=w1
   refine ⟨_,loop_off (by decide) e,a,aa,rfl,?_,?_⟩
   ·rw [List.drop_of_length_le (by omega),ptT,Bool.and_true]
   ·rw [List.drop_of_length_le (by omega),ptT]
    exact d.takeD 2
  rw [B214_1_eq]
  ((try simp only [n1,n2,n3,n4,n5,n6] at d);(with_reducible repeat refine W.a1 d ?_))
  exact W.ifF (by simp;omega) (W.ret rfl)
 | succ r ihr=>
  intro i h w ats a aa ok hi hat hn hal d
  have hlt:i<l.length:=by omega
  have hwi:=hw l[i] (List.getElem_mem _)
  have ed:l.drop i=l[i] :: l.drop (i+1):=List.drop_eq_getElem_cons hlt
  have hn2:=hn
  rw [ed,sumL] at hn2
  obtain ⟨pk1,pk2⟩:=pt_ok (fr:=0) f l[i] hwi (w,ats)
  simp only at pk1 pk2
  generalize hq:pt 0 f (w,ats) l[i]=q at pk1 pk2
  suffices w1:Wp (B214_1 base [some (.pointer (at0 wb)),some (.pointer (at0 sb)),some (.pointer (at0 tb)),some (.int .i64 (at_:Int)),some (.bool ok),some (.int .i64 (i:Int))] h) fun o=>∃ a' aa',o.1=0∧o.2.1 = [some (.pointer (at0 wb)),some (.pointer (at0 sb)),some (.pointer (at0 tb)),some (.int .i64 (at_:Int)),some (.bool (ok&&q.2.2)),some (.int .i64 ((i+1:Nat):Int))]∧Hs base V h0 o.2.2 (wsD wt wb sb a' (q.1.1.set (at_+1+i) q.2.1).length aa' q.1.2.length++[(tb,42,termV k n s al l.length)]) [rTSR P f l al,rW base a' (q.1.1.set (at_+1+i) q.2.1),rSt base aa' q.1.2] by
   obtain ⟨⟨o1,o2,h'⟩,e,a',aa',y1,y2,d'⟩:=w1
   simp only at y1 y2 d'
   subst y1;subst y2
   obtain ⟨o,eo,a2,aa2,z1,z2,z3⟩:=ihr (i+1) h' _ _ a' aa' _ (by omega) (by rw [List.length_set];omega) (by rw [List.length_set];omega) (by omega) d'
   refine ⟨o,loop_on e eo,a2,aa2,z1,?_,?_⟩
   ·rw [z2,ed,ptT,hq]
    simp only
    rw [← Bool.and_assoc,show at_+1+i+1=at_+1+(i+1) from by omega]
   ·rw [ed,ptT,hq]
    simp only
    rw [show at_+1+i+1=at_+1+(i+1) from by omega]
    exact z3
  rw [B214_1_eq]
  ((try simp only [n1,n2,n3,n4,n5,n6] at d);(with_reducible repeat refine W.a1 d ?_))
  refine W.ifT (decide_eq_true (by omega)) ?_
  cases f with
  | zero=>obtain ⟨d',x,_,hx⟩:=hwi;rw [lk] at hx;omega
  | succ f=>
   refine W.joinP (fun z=>z.1 = [some (.pointer (at0 wb)),some (.pointer (at0 sb)),some (.pointer (at0 tb)),some (.int .i64 (at_:Int)),some (.bool (ok&&q.2.2)),some (.int .i64 (i:Int))]∧∃ a' aa',Hs base V h0 z.2 (wsD wt wb sb a' (q.1.1.set (at_+1+i) q.2.1).length aa' q.1.2.length++[(tb,42,termV k n s al l.length)]) [rTSR P (f+1) l al,rW base a' (q.1.1.set (at_+1+i) q.2.1),rSt base aa' q.1.2]) ?_ ?_
   ·((with_reducible repeat first|refine W.a1 d ?_|refine W.a8 ?_))
    refine W.t4 (d.rs (i:=0) rfl:TsR h P (f+1) l al) hlt fun k2 n2 s2 a2 l2 el hm _ hsz hln=>?_
    rw [← el] at hm
    have d:=d.also (i:=0) rfl rfl (fun y=>TmR y P (f+1) l[i] (termV k2 n2 s2 a2 l2.length)) hm (fun U y y' ky hs x=>TmR.keep ky hs _ _ _ x)
    skip
    have d:=d.sw4
    have d1:=Hs.part (D1:=[_,_]) (R1:=[_,_,_]) d
    refine W.wb (ih wt wb sb P l[i] _ w ats a aa _ _ _ hwi (by omega) hal d1) ?_
    rintro ⟨u,h4⟩ ⟨a',aa',y1,d2⟩
    simp only at y1 d2
    subst y1
    have d:=(Hs.back (D1:=[_,_]) (R1:=[_,_,_]) d d2 (imP rfl rfl)).sw4
    rw [hq] at d ⊢
    have d:=d.takeR 3
    clear d1 d2
    ((with_reducible repeat first|refine W.a1 d ?_|refine W.a2 ?_|refine W.a3 ?_|refine W.bo ?_))
    rw [w64i (n:=(at_:Int)+1) (by omega) (by omega),w64i (n:=(at_:Int)+1+(i:Int)) (by omega) (by omega)]
    refine W.ifT ⟨by omega,by omega⟩ ?_
    obtain ⟨ad,h5,ea,ew,d,_⟩:=d.setW (i:=1) (j:=at_+1+i) (v:=q.2.1) rfl (by omega)
    subst ea
    refine W.bs rfl (W.bs (by rw [show Int.toNat ((at_:Int)+1+(i:Int))*1=at_+1+i from by omega];exact ew) ?_)
    refine W.ite (fun co=>?_) (fun co=>?_)
    ·have co:ok=true:=co
     refine W.inl ⟨by rw [co,Bool.true_and],some ad,aa',?_⟩
     rw [List.length_set]
     exact d
    ·have co:ok=false:=by simpa using co
     refine W.inl ⟨by rw [co,Bool.false_and],some ad,aa',?_⟩
     rw [List.length_set]
     exact d
   ·rintro ⟨z1,z2⟩ ⟨y1,a',aa',d⟩
    simp only at y1 d
    subst y1
    ((try simp only [n1,n2,n3,n4,n5,n6] at d);(with_reducible repeat refine W.a2 ?_))
    dsimp only
    rw [w64i (n:=(i:Int)+1) (by omega) (by omega)]
    exact W.ret ⟨a',aa',rfl,rfl,d⟩
theorem sputList_loop {base wt wb sb tb f at_:Nat} {P:Fp} {k n:Int} {s:ByteArray} {l:List Tm} {al:Option Addr} {V:Fp} {h0:AH} (hl:l.length≤20) (hw:∀ t∈l,Wf f t) (ih:SPutR base f):∀ (r i:Nat) (h:AH) (w:List Int) (ats:List ByteArray) (a aa:Option Addr) (ok:Bool),i+r=l.length→at_+2*l.length≤w.length→w.length+sumL (needT f) (l.drop i)≤100000→ats.length≤1048576→Hs base V h0 h (wsD wt wb sb a w.length aa ats.length++[(tb,42,termV k n s al l.length)]) [rTSR P f l al,rW base a w,rSt base aa ats] →
  Wp (loopL (B231_0 base) [some (.pointer (at0 wb)),some (.pointer (at0 sb)),some (.pointer (at0 tb)),some (.int .i64 (l.length:Int)),some (.int .i64 (at_:Int)),some (.bool ok),some (.int .i64 (i:Int))] h) fun o=>∃ a' aa',o.1=2∧o.2.1 = [some (.pointer (at0 wb)),some (.int .i64 (l.length:Int)),some (.int .i64 (at_:Int)),some (.bool (ok&&(ptL (pt 0 f) 0 (l.drop i) (at_+2*i) (w,ats)).2))]∧Hs base V h0 o.2.2 (wsD wt wb sb a' (ptL (pt 0 f) 0 (l.drop i) (at_+2*i) (w,ats)).1.1.length aa' (ptL (pt 0 f) 0 (l.drop i) (at_+2*i) (w,ats)).1.2.length) [rTSR P f l al,rW base a' (ptL (pt 0 f) 0 (l.drop i) (at_+2*i) (w,ats)).1.1,rSt base aa' (ptL (pt 0 f) 0 (l.drop i) (at_+2*i) (w,ats)).1.2]:=by
 intro r
 induction r with
 | zero=>
  intro i h w ats a aa ok hi hat hn hal d
  suffices w1:Wp (B231_0 base [some (.pointer (at0 wb)),some (.pointer (at0 sb)),some (.pointer (at0 tb)),some (.int .i64 (l.length:Int)),some (.int .i64 (at_:Int)),some (.bool ok),some (.int .i64 (i:Int))] h) fun o=>o=(2,[some (.pointer (at0 wb)),some (.int .i64 (l.length:Int)),some (.int .i64 (at_:Int)),some (.bool ok)],h) by
   obtain ⟨o,e,rfl⟩:=w1
   refine ⟨_,loop_off (by decide) e,a,aa,rfl,?_,?_⟩
   ·rw [List.drop_of_length_le (by omega),ptL,Bool.and_true]
   ·rw [List.drop_of_length_le (by omega),ptL]
    exact d.takeD 2
  rw [B231_0_eq]
  ((try simp only [n1,n2,n3,n4,n5,n6] at d))
  exact W.ifF (by simp;omega) (W.ret rfl)
 | succ r ihr=>
  intro i h w ats a aa ok hi hat hn hal d
  have hlt:i<l.length:=by omega
  have hwi:=hw l[i] (List.getElem_mem _)
  have ed:l.drop i=l[i] :: l.drop (i+1):=List.drop_eq_getElem_cons hlt
  have hn2:=hn
  rw [ed,sumL] at hn2
  obtain ⟨pk1,pk2⟩:=pt_ok (fr:=0) f l[i] hwi (w,ats)
  simp only at pk1 pk2
  generalize hq:pt 0 f (w,ats) l[i]=q at pk1 pk2
  suffices w1:Wp (B231_0 base [some (.pointer (at0 wb)),some (.pointer (at0 sb)),some (.pointer (at0 tb)),some (.int .i64 (l.length:Int)),some (.int .i64 (at_:Int)),some (.bool ok),some (.int .i64 (i:Int))] h) fun o=>∃ a' aa',o.1=0∧o.2.1 = [some (.pointer (at0 wb)),some (.pointer (at0 sb)),some (.pointer (at0 tb)),some (.int .i64 (l.length:Int)),some (.int .i64 (at_:Int)),some (.bool (ok&&q.2.2)),some (.int .i64 ((i+1:Nat):Int))]∧Hs base V h0 o.2.2 (wsD wt wb sb a' ((q.1.1.set (at_+2*i) q.2.1).set (at_+2*i+1) (mkW 5 (0+(at_+2*i:Nat)+2))).length aa' q.1.2.length++[(tb,42,termV k n s al l.length)]) [rTSR P f l al,rW base a' ((q.1.1.set (at_+2*i) q.2.1).set (at_+2*i+1) (mkW 5 (0+(at_+2*i:Nat)+2))),rSt base aa' q.1.2] by
   obtain ⟨⟨o1,o2,h'⟩,e,a',aa',y1,y2,d'⟩:=w1
   simp only at y1 y2 d'
   subst y1;subst y2
   obtain ⟨o,eo,a2,aa2,z1,z2,z3⟩:=ihr (i+1) h' _ _ a' aa' _ (by omega) (by rw [List.length_set,List.length_set];omega) (by rw [List.length_set,List.length_set];omega) (by omega) d'
   refine ⟨o,loop_on e eo,a2,aa2,z1,?_,?_⟩
   ·rw [z2,ed,ptL,hq]
    simp only
    rw [← Bool.and_assoc,show at_+2*i+2=at_+2*(i+1) from by omega]
   ·rw [ed,ptL,hq]
    simp only
    rw [show at_+2*i+2=at_+2*(i+1) from by omega]
    exact z3
  rw [B231_0_eq]
  ((try simp only [n1,n2,n3,n4,n5,n6] at d))
  refine W.ifT (decide_eq_true (by omega)) ?_
  cases f with
  | zero=>obtain ⟨d',x,_,hx⟩:=hwi;rw [lk] at hx;omega
  | succ f=>
   refine W.joinP (fun z=>z.1 = [some (.pointer (at0 wb)),some (.pointer (at0 sb)),some (.pointer (at0 tb)),some (.int .i64 (l.length:Int)),some (.int .i64 (at_:Int)),some (.bool (ok&&q.2.2)),some (.int .i64 (i:Int))]∧∃ a' aa',Hs base V h0 z.2 (wsD wt wb sb a' ((q.1.1.set (at_+2*i) q.2.1).set (at_+2*i+1) (mkW 5 (0+(at_+2*i:Nat)+2))).length aa' q.1.2.length++[(tb,42,termV k n s al l.length)]) [rTSR P (f+1) l al,rW base a' ((q.1.1.set (at_+2*i) q.2.1).set (at_+2*i+1) (mkW 5 (0+(at_+2*i:Nat)+2))),rSt base aa' q.1.2]) ?_ ?_
   ·((with_reducible repeat first|refine W.a1 d ?_|refine W.a8 ?_))
    refine W.t4 (d.rs (i:=0) rfl:TsR h P (f+1) l al) hlt fun k2 n2 s2 a2 l2 el hm _ hsz hln=>?_
    rw [← el] at hm
    have d:=d.also (i:=0) rfl rfl (fun y=>TmR y P (f+1) l[i] (termV k2 n2 s2 a2 l2.length)) hm (fun U y y' ky hs x=>TmR.keep ky hs _ _ _ x)
    skip
    have d:=d.sw4
    have d1:=Hs.part (D1:=[_,_]) (R1:=[_,_,_]) d
    refine W.wb (ih wt wb sb P l[i] _ w ats a aa _ _ _ hwi (by omega) hal d1) ?_
    rintro ⟨u,h4⟩ ⟨a',aa',y1,d2⟩
    simp only at y1 d2
    subst y1
    have d:=(Hs.back (D1:=[_,_]) (R1:=[_,_,_]) d d2 (imP rfl rfl)).sw4
    rw [hq] at d ⊢
    have d:=d.takeR 3
    clear d1 d2
    ((with_reducible repeat first|refine W.a1 d ?_|refine W.a2 ?_|refine W.a3 ?_|refine W.bo ?_))
    rw [w64i (n:=2*(i:Int)) (by omega) (by omega),w64i (n:=(at_:Int)+2*(i:Int)) (by omega) (by omega)]
    refine W.ifT ⟨by omega,by omega⟩ ?_
    obtain ⟨ad,h5,ea,ew,d,_⟩:=d.setW (i:=1) (j:=at_+2*i) (v:=q.2.1) rfl (by omega)
    subst ea
    refine W.bs rfl (W.bs (by rw [show Int.toNat ((at_:Int)+2*(i:Int))*1=at_+2*i from by omega];exact ew) ?_)
    ((with_reducible repeat first|refine W.a1 d ?_|refine W.bo ?_))
    refine W.bs specMk_run ?_
    ((with_reducible repeat first|refine W.a2 ?_|refine W.a6 d ?_))
    rw [w64i (n:=(at_:Int)+2*(i:Int)+2) (by omega) (by omega),w64i (n:=(at_:Int)+2*(i:Int)+1) (by omega) (by omega)]
    refine W.ifT ⟨by omega,by omega⟩ ?_
    obtain ⟨ad2,h6,ea2,ew2,d,_⟩:=d.setW (i:=1) (j:=at_+2*i+1) (v:=mkW 5 ((at_:Int)+2*(i:Int)+2)) rfl (by rw [List.length_set];omega)
    injection ea2 with ea2
    subst ea2
    refine W.bs rfl (W.bs (by rw [show Int.toNat ((at_:Int)+2*(i:Int)+1)*1=at_+2*i+1 from by omega];exact ew2) ?_)
    rw [show (at_:Int)+2*(i:Int)+2=0+((at_+2*i:Nat):Int)+2 from by omega] at d
    refine W.ite (fun co=>?_) (fun co=>?_)
    ·have co:ok=true:=co
     refine W.inl ⟨by rw [co,Bool.true_and],some ad,aa',?_⟩
     rw [List.length_set,List.length_set]
     exact d
    ·have co:ok=false:=by simpa using co
     refine W.inl ⟨by rw [co,Bool.false_and],some ad,aa',?_⟩
     rw [List.length_set,List.length_set]
     exact d
   ·rintro ⟨z1,z2⟩ ⟨y1,a',aa',d⟩
    simp only at y1 d
    subst y1
    ((try simp only [n1,n2,n3,n4,n5,n6] at d);(with_reducible repeat refine W.a2 ?_))
    dsimp only
    rw [w64i (n:=(i:Int)+1) (by omega) (by omega)]
    exact W.ret ⟨a',aa',rfl,rfl,d⟩
theorem sputList_run {base wt wb sb f:Nat} {P:Fp} {k n:Int} {s:ByteArray} {l:List Tm} {al:Option Addr} {V:Fp} {h0 h:AH} {w:List Int} {ats:List ByteArray} {a aa:Option Addr} (hl:l.length≤20) (hwf:∀ t∈l,Wf f t) (ih:SPutR base f) (hn:w.length+2*l.length+sumL (needT f) l≤100000) (hal:ats.length≤1048576) (d:Hs base V h0 h (wsD wt wb sb a w.length aa ats.length) [rTSR P f l al,rW base a w,rSt base aa ats]) :
  Wp (run (Et base) 231 [.pointer (at0 wb),.pointer (at0 sb),.agg (termV k n s al l.length).toArray] h) fun o=>∃ a' aa',o.1 = .tuple #[.int .i64 (pt 0 (f+1) (w,ats) (.mk 5 0 ⟨#[]⟩ l)).2.1,.bool (pt 0 (f+1) (w,ats) (.mk 5 0 ⟨#[]⟩ l)).2.2]∧Hs base V h0 o.2 (wsD wt wb sb a' (pt 0 (f+1) (w,ats) (.mk 5 0 ⟨#[]⟩ l)).1.1.length aa' (pt 0 (f+1) (w,ats) (.mk 5 0 ⟨#[]⟩ l)).1.2.length) [rTSR P f l al,rW base a' (pt 0 (f+1) (w,ats) (.mk 5 0 ⟨#[]⟩ l)).1.1,rSt base aa' (pt 0 (f+1) (w,ats) (.mk 5 0 ⟨#[]⟩ l)).1.2]:=by
 refine W.of (fun r hx=>Am.r231 hx) ?_
 rw [pt_list (by decide)]
 ((refine W.nD d fun h1 d _ kh1=>?_);(with_reducible repeat refine W.a1 d ?_))
 have d:=(d.front (Del.at (i:=2) rfl)).front (Del.at (i:=2) rfl)
 simp only [n5,n6] at d
 by_cases cl:l = []
 ·rw [if_pos cl]
  refine W.ifT (by rw [cl];rfl) ?_
  refine W.bs specMk_run ?_
  ((with_reducible repeat refine W.a2 ?_))
  exact W.ret ⟨a,aa,rfl,d.takeD 2⟩
 rw [if_neg cl]
 have hpos:0<l.length:=List.length_pos_iff.2 cl
 refine W.ifF (by simp;omega) ?_
 ((with_reducible repeat first|refine W.a1 d ?_|refine W.bo ?_))
 rw [w64i (n:=2*(l.length:Int)) (by omega) (by omega),show 2*(l.length:Int)=((2*l.length:Nat):Int) from by omega]
 refine W.ifT ⟨by omega,by omega⟩ ?_
 obtain ⟨a',h2,e2,d,_⟩:=d.extW (i:=1) (m:=2*l.length) (new:=List.replicate (2*l.length) 0) (src:=some (rep [.int .i64 0] (Int.toNat ((2*l.length:Nat):Int)))) rfl (by rw [Int.toNat_natCast,rep_ivs]) (by simp) (by omega)
 rw [Int.toNat_natCast] at e2 ⊢
 refine W.bs e2 ?_
 ((try simp only [n1,n2,n3,n4,n5,n6] at d);(with_reducible repeat first|refine W.a2 ?_|refine W.bo ?_|refine W.a5 d fun hw d lw kw=>?_))
 have hlen:(w++List.replicate (2*l.length) 0).length=w.length+2*l.length:=by simp
 rw [← hlen] at d
 refine W.wb (sputList_loop (base:=base) (at_:=w.length) hl hwf ih l.length 0 _ _ ats a' aa true (by omega) (by omega) (by rw [List.drop_zero,hlen];omega) hal d) ?_
 rintro ⟨o1,o2,h3⟩ ⟨a2,aa2,y1,y2,d⟩
 simp only at y1 y2 d
 subst y1;subst y2
 refine W.ifT rfl ?_
 rw [List.drop_zero,Nat.mul_zero,Nat.add_zero] at d
 rw [List.drop_zero,Nat.mul_zero,Nat.add_zero,Bool.true_and]
 have hz:=ptL_len (g:=pt 0 f) (fr:=0) (nd:=needT f) l w.length (w++List.replicate (2*l.length) 0,ats) (fun t ht=>pt_ok f t (hwf t ht))
 simp only [hlen] at hz
 generalize ptL (pt 0 f) 0 l w.length (w++List.replicate (2*l.length) 0,ats)=z at d hz ⊢
 ((with_reducible repeat first|refine W.a1 d ?_|refine W.a2 ?_|refine W.bo ?_))
 refine W.bs specMk_run ?_
 ((with_reducible repeat first|refine W.a2 ?_|refine W.a6 d ?_))
 rw [w64i (n:=2*(l.length:Int)) (by omega) (by omega),w64i (n:=(w.length:Int)+2*(l.length:Int)) (by omega) (by omega),w64i (n:=(w.length:Int)+2*(l.length:Int)-1) (by omega) (by omega)]
 refine W.ifT ⟨by omega,by omega⟩ ?_
 obtain ⟨ad,h5,ea,ew,d,_⟩:=d.setW (i:=1) (j:=w.length+2*l.length-1) (v:=mkW 3 0) rfl (by omega)
 subst ea
 refine W.bs rfl (W.bs (by rw [show Int.toNat ((w.length:Int)+2*(l.length:Int)-1)*1=w.length+2*l.length-1 from by omega];exact ew) ?_)
 ((try simp only [n1,n2,n3,n4,n5,n6] at d))
 refine W.bs specMk_run ?_
 ((with_reducible repeat refine W.a2 ?_))
 rw [show mkW 3 0=3 from rfl] at d
 refine W.ret ⟨some ad,aa2,by rw [Int.zero_add],?_⟩
 rw [List.length_set]
 exact d
theorem sput_succ {base f:Nat} (ih:SPutR base f):SPutR base (f+1):=by
 intro wt wb sb P t cs w ats a aa V h0 h hwf hn hal d
 obtain ⟨k,n,s,l⟩:=t
 obtain ⟨hsh,hch⟩:=hwf.open
 obtain ⟨ks,k0,k1,k3,k4,k5,k6⟩:=sh_kinds hsh
 have hm:TmR h P (f+1) (.mk k n s l) cs:=d.rs (i:=0) rfl
 obtain ⟨al,rfl,hts,hsz,hln⟩:=hm.parts
 have hl20:l.length≤20:=by
  by_cases c4:k=4
  ·have:=k4 c4;omega
  ·by_cases c5:k=5
   ·exact k5 c5
   ·rw [k0 c4 c5];omega
 rw [needT] at hn
 have d:=d.also (i:=0) rfl rfl (fun y=>TsR y P f l al) hts (fun U y y' ky hs x=>x.keep ky hs)
 simp only [n5,n6] at d
 refine W.of (fun r hx=>Am.r214 hx) ?_
 ((try simp only [n1,n2,n3,n4,n5,n6] at d);(refine W.nD d fun h1 d _ kh1=>?_);(with_reducible repeat refine W.a1 d ?_))
 have d:=(d.front (Del.at (i:=2) rfl)).front (Del.at (i:=2) rfl)
 simp only [n5,n6] at d
 refine W.ite (fun c=>?_) (fun c=>?_)
 ·have c:k=1:=by simpa using c
  have:=k1 c
  rw [show pt 0 (f+1) (w,ats) (.mk k n s l)=((w,ats),mkW 0 (n+1000000),true) from by rw [pt,if_pos c]]
  ((with_reducible repeat refine W.a1 d ?_))
  rw [w64i (n:=n+1000000) (by omega) (by omega)]
  refine W.bs specMk_run ?_
  ((with_reducible repeat refine W.a2 ?_))
  exact W.ret ⟨a,aa,rfl,(d.takeD 2).takeR 3⟩
 have c1:¬k=1:=by simpa using c
 refine W.ite (fun c=>?_) (fun c=>?_)
 ·have c:k=3:=by simpa using c
  rw [show pt 0 (f+1) (w,ats) (.mk k n s l)=((w,ats),mkW 2 n,true) from by rw [pt,if_neg c1,if_neg (by omega),if_pos c]]
  ((with_reducible repeat refine W.a1 d ?_))
  refine W.bs specMk_run ?_
  ((with_reducible repeat refine W.a2 ?_))
  exact W.ret ⟨a,aa,rfl,(d.takeD 2).takeR 3⟩
 have c3:¬k=3:=by simpa using c
 refine W.ite (fun c=>?_) (fun c=>?_)
 ·have c:k=2:=by simpa using c
  rw [show pt 0 (f+1) (w,ats) (.mk k n s l)=((w,(addA ats s).1),mkW 1 (addA ats s).2,decide ((addA ats s).2≥0)) from by rw [pt,if_neg c1,if_pos c]]
  have hl:=addA_len ats s
  obtain ⟨a2,h2,e2,o2,kk,f2⟩:=specAdd_run (base:=base) h1 ats aa s hal hsz (d.rs (i:=2) rfl:Own base 9 h1 aa (stV ats)).sl (d.rlt (i:=2) rfl) d.ge
  ((with_reducible repeat first|refine W.a1 d ?_|refine W.bo ?_))
  refine W.bs e2 ?_
  have d:=d.call kk (blk a2) (fun y=>Own base 9 y a2 (stV (addA ats s).1)) o2 (fun U y y' ky hs x=>x.keep ky hs) (fun b hb=>⟨f2 b hb,(o2.lt hb).2⟩)
  have d:=d.pk5
  ((with_reducible repeat first|refine W.a2 ?_|refine W.a3 ?_|refine W.bo ?_|refine W.a5 d fun hw d lw kw=>?_))
  refine W.bs specMk_run ?_
  ((try simp only [n1,n2,n3,n4,n5,n6] at d);(with_reducible repeat refine W.a2 ?_))
  exact W.ret ⟨a,a2,rfl,d.takeD 2⟩
 have c2:¬k=2:=by simpa using c
 refine W.ite (fun c=>?_) (fun c=>?_)
 ·have c:k=6:=by simpa using c
  have c4:k≠4:=by omega
  have c5:k≠5:=by omega
  have hs40:=k6 c
  have hbl:=bsL_len s
  rw [show pt 0 (f+1) (w,ats) (.mk k n s l)=((w++(s.size:Int) :: bsL s,ats),mkW 6 (0+w.length),true) from by rw [pt,if_neg c1,if_neg c2,if_neg c3,if_pos c]]
  rw [show ndN k s l.length=1+s.size from by unfold ndN;rw [if_neg c4,if_neg c5,if_pos c]] at hn
  have d:=d.takeR 3
  ((with_reducible repeat first|refine W.a1 d ?_|refine W.bo ?_|refine W.a7 ?_);(refine W.nD d fun h2 d _ kh2=>?_))
  obtain ⟨a5,h5,e5,d⟩:=d.app1W (i:=1) rfl rfl (by omega)
  refine W.bs e5 ?_
  ((with_reducible repeat first|refine W.a2 ?_|refine W.bo ?_|refine W.a5 d fun hw d lw kw=>?_))
  have d:=d.tl
  have e0:w++[(s.size:Int)]=w++(s.size:Int) :: (bsL s).take 0:=by simp
  rw [e0,show w.length+1=(w++(s.size:Int) :: (bsL s).take 0).length from by simp] at d
  refine W.wb (sputBin_loop (base:=base) hs40 (by omega) s.size 0 _ a5 (by omega) d) ?_
  rintro ⟨o1,o2,h4⟩ ⟨a6,y1,y2,d⟩
  simp only at y1 y2 d
  subst y1;subst y2
  refine W.ifT rfl ?_
  ((with_reducible repeat refine W.a2 ?_))
  refine W.bs specMk_run ?_
  ((with_reducible repeat refine W.a2 ?_))
  exact W.ret ⟨a6,aa,by rw [Int.zero_add],d⟩
 have c6:¬k=6:=by simpa using c
 refine W.ite (fun c=>?_) (fun c=>?_)
 ·have c:k=4:=by simpa using c
  have hl8:=k4 c
  rw [show pt 0 (f+1) (w,ats) (.mk k n s l)=((ptT (pt 0 f) l (w.length+1) (w++(l.length:Int) :: List.replicate l.length 0,ats)).1,mkW 4 (0+w.length),(ptT (pt 0 f) l (w.length+1) (w++(l.length:Int) :: List.replicate l.length 0,ats)).2) from by rw [pt,if_neg c1,if_neg c2,if_neg c3,if_neg c6,if_pos c]]
  rw [show ndN k s l.length=1+l.length from by unfold ndN;rw [if_pos c]] at hn
  have d:=d.sw4
  ((with_reducible repeat first|refine W.a1 d ?_|refine W.bo ?_|refine W.a7 ?_);(refine W.nD d fun h2 d _ kh2=>?_))
  obtain ⟨a5,h5,e5,d⟩:=d.app1W (i:=1) rfl rfl (by omega)
  refine W.bs e5 ?_
  ((try simp only [n1,n2,n3,n4,n5,n6] at d);(with_reducible repeat first|refine W.a1 d ?_|refine W.a2 ?_|refine W.bo ?_|refine W.a5 d fun hw d lw kw=>?_))
  have d:=d.tl
  refine W.ifT ⟨by omega,by omega⟩ ?_
  obtain ⟨a',h6,e6,d,_⟩:=d.extW (i:=1) (m:=l.length) (new:=List.replicate l.length 0) (src:=some (rep [.int .i64 0] (Int.toNat ((l.length:Nat):Int)))) rfl (by rw [Int.toNat_natCast,rep_ivs]) (by simp) (by simp;omega)
  rw [Int.toNat_natCast] at e6 ⊢
  rw [show (w++[(l.length:Int)]).length=w.length+1 from by simp] at e6
  refine W.bs e6 ?_
  ((try simp only [n1,n2,n3,n4,n5,n6] at d);(with_reducible repeat first|refine W.a2 ?_|refine W.bo ?_|refine W.a5 d fun hw d lw kw=>?_))
  have e0:w++[(l.length:Int)]++List.replicate l.length 0=w++(l.length:Int) :: List.replicate l.length 0:=by simp
  have hlen2:(w++(l.length:Int) :: List.replicate l.length 0).length=w.length+1+l.length:=by simp;omega
  rw [e0,← hlen2] at d
  have d1:=Hs.part (D1:=[_,_,_]) (R1:=[_,_,_]) d
  refine W.wb (sputTup_loop (base:=base) (at_:=w.length) hl20 hch ih l.length 0 _ _ ats a' aa true (by omega) (by omega) (by rw [List.drop_zero,hlen2];omega) hal d1) ?_
  rintro ⟨o1,o2,h4⟩ ⟨a4,aa4,y1,y2,d2⟩
  simp only at y1 y2 d2
  subst y1;subst y2
  have d:=(Hs.back (D1:=[_,_,_]) (R1:=[_,_,_]) d d2 (imP rfl rfl)).sw4
  rw [List.drop_zero,Nat.add_zero] at d
  rw [List.drop_zero,Nat.add_zero,Bool.true_and]
  have d:=d.takeR 3
  clear d1 d2
  refine W.ifT rfl ?_
  ((try simp only [n1,n2,n3,n4,n5,n6] at d);(with_reducible repeat refine W.a2 ?_))
  refine W.bs specMk_run ?_
  ((with_reducible repeat refine W.a2 ?_))
  exact W.ret ⟨a4,aa4,by rw [Int.zero_add],d⟩
 have c4:¬k=4:=by simpa using c
 have c5:k=5:=by omega
 rw [show ndN k s l.length=2*l.length from by unfold ndN;rw [if_neg c4,if_pos c5]] at hn
 ((with_reducible repeat refine W.a1 d ?_))
 have d:=d.sw4
 have d1:=Hs.part (D1:=[_,_]) (R1:=[_,_,_]) d
 refine W.wb (sputList_run (base:=base) (k:=k) (n:=n) (s:=s) hl20 hch ih (by omega) hal d1) ?_
 rintro ⟨u,h4⟩ ⟨a4,aa4,y1,d2⟩
 simp only at y1 d2
 subst y1
 have d:=(Hs.back (D1:=[_,_]) (R1:=[_,_,_]) d d2 (imP rfl rfl)).sw4
 have d:=(d.takeD 2).takeR 3
 clear d1 d2
 rw [pt_list (by decide)] at d ⊢
 rw [pt_list ⟨c1,c2,c3,c6,c4⟩]
 ((try simp only [n1,n2,n3,n4,n5,n6] at d);(with_reducible repeat first|refine W.a2 ?_|refine W.a3 ?_))
 exact W.ret ⟨a4,aa4,rfl,d⟩
theorem sput_run {base:Nat}:∀ f,SPutR base f
 | 0=>fun wt wb sb P t cs w ats a aa V h0 h hwf _ _ _=>by obtain ⟨d,x,_,hx⟩:=hwf;rw [lk] at hx;omega
 | f+1=>sput_succ (sput_run f)
def roomT (most:Int) (f:Nat) (w:List Int) (t:Tm):Bool:=tOk f t&&decide ((w.length:Int)+needT f t≤most)
def putT (fr most:Int) (f:Nat) (w:List Int) (ats:List ByteArray) (t:Tm):PS×Int×Bool:=
 if (roomT most f w t&&(pt fr f (w,ats) t).2.2)=true then ((pt fr f (w,ats) t).1,(pt fr f (w,ats) t).2.1,true) else ((w,ats),0,false)
theorem putT_no {fr most:Int} {f:Nat} {w:List Int} {ats:List ByteArray} {t:Tm} (h:roomT most f w t=false):putT fr most f w ats t=((w,ats),0,false):=by
 unfold putT
 rw [h,Bool.false_and]
 rfl
theorem Hs.copyG {base b t bytes m:Nat} {V:Fp} {h0 h:AH} {D:Ds} {R:List Rs} {vs:List Value} {src:Option (List Value)} (d:Hs base V h0 h ((b,t,[]) :: D) R) (hs:src=some vs) (hm:vs.length=m) (h1:m≤1048576*4) (hby:bytes≤16) :
  ∃ a' h',Am.app base h t 1 bytes (at0 b) 0 src m=some (.slice a' m m,h')∧Hs base V h0 h' D (R++[⟨blk a',true,fun y=>Own base t y a' vs⟩]):=by
 have d:=d.unbox (Del.at (i:=0) rfl)
 simp only [n5,n6] at d
 have hbm:(0+m)*bytes≤140737488355328:=by
  have:(0+m)*bytes≤(1048576*4)*16:=Nat.mul_le_mul (by omega) hby
  omega
 obtain ⟨a2,h2,e2,d,k2⟩:=d.appN (i:=R.length) (n:=0) (m:=m) (sz:=1) (bytes:=bytes) (a:=at0 b) (t:=t) (olds:=[]) (S:=(· = b)) (by simp) (fun b hb=>(blk_at0.1 hb)) (by simp) (by decide) hs hbm (by omega) (by omega)
 simp only [List.nil_append,Nat.zero_add] at e2 d
 refine ⟨a2,h2,e2,?_⟩
 have e:∀ (x y:Rs),(R++[x]).set R.length y=R++[y]:=by intro x y;simp
 rw [e] at d
 exact d
theorem raw_ivs {h:AH} {a:Option Addr} {l:List Int} (x:Sl h a (iv .i64 l)):rawAt h a (l.length*1)=some (iv .i64 l):=by
 have:=x.raw (iv_leaf _ _)
 simpa using this
theorem raw_st {h:AH} {a:Option Addr} {l:List ByteArray} (x:Sl h a (stV l)):rawAt h a (l.length*1)=some (stV l):=by
 have:=x.raw (stV_leaf l)
 rw [stV_len] at this
 rw [Nat.mul_one]
 exact this
theorem Hs.call2R {base:Nat} {V:Fp} {h0 h h':AH} {D D':Ds} {R:List Rs} {x y:Rs} (d:Hs base V h0 h D R) (z:Hs base NoB h h' D' [x,y]) (hx:x.mu=true) (hy:y.mu=true):Hs base V h0 h' D (R++[x,y]):=by
 obtain ⟨S,mx,A⟩:=x
 obtain ⟨T,my,B⟩:=y
 simp only at hx hy
 subst hx;subst hy
 have zx:=z.res _ (.head _)
 have zy:=z.res _ (.tail _ (.head _))
 rw [show R++[(⟨S,true,A⟩:Rs),⟨T,true,B⟩]=R++[⟨S,true,A⟩]++[⟨T,true,B⟩] from by simp]
 exact d.call2 z.kb S T A B zx.1 zy.1 zx.2.1 zy.2.1 (fun b hb=>⟨(zx.2.2.2.1 rfl b hb).resolve_left fun h=>h,zx.2.2.1 b hb⟩) (fun b hb=>⟨(zy.2.2.2.1 rfl b hb).resolve_left fun h=>h,zy.2.2.1 b hb⟩) (fun b h1 h2=>by
  have:=z.dj
  rw [List.pairwise_cons] at this
  exact this.1 _ (.head _) rfl b h1 h2)
theorem putT_yes {fr most:Int} {f:Nat} {w:List Int} {ats:List ByteArray} {t:Tm} (h:roomT most f w t=true):putT fr most f w ats t=if (pt fr f (w,ats) t).2.2=true then ((pt fr f (w,ats) t).1,(pt fr f (w,ats) t).2.1,true) else ((w,ats),0,false):=by
 unfold putT
 rw [h,Bool.true_and]
theorem roomT_spec {most:Int} {f:Nat} {w:List Int} {t:Tm}:(if (!tOk f t)=true then true else decide ((w.length:Int)+needT f t>most)) = !roomT most f w t:=by
 unfold roomT
 cases tOk f t with
 | false=>rfl
 | true=>
  by_cases c2:(w.length:Int)+needT f t≤most
  ·simp only [Bool.not_true,Bool.false_eq_true,if_false,Bool.true_and]
   rw [decide_eq_false (by omega),decide_eq_true c2]
   rfl
  ·simp only [Bool.not_true,Bool.false_eq_true,if_false,Bool.true_and]
   rw [decide_eq_true (by omega),decide_eq_false c2]
   rfl
structure Sg where
 seg:List Int
 ats:List ByteArray
 word:Int
 ok:Bool
structure SgT where
 ws:List Int
 seg:List Int
 ats:List ByteArray
 ok:Bool
def sgT (g:Int→List ByteArray→Tm→Sg):List Tm→Int→List ByteArray→SgT
 | [],_,ats=>⟨[],[],ats,true⟩
 | t :: r,b,ats=>⟨(g b ats t).word :: (sgT g r (b+(g b ats t).seg.length) (g b ats t).ats).ws,(g b ats t).seg++(sgT g r (b+(g b ats t).seg.length) (g b ats t).ats).seg,(sgT g r (b+(g b ats t).seg.length) (g b ats t).ats).ats,(g b ats t).ok&&(sgT g r (b+(g b ats t).seg.length) (g b ats t).ats).ok⟩
def lnO (b:Int):List Int→List Int
 | []=>[]
 | w :: r=>w :: mkW 5 (b+2) :: lnO (b+2) r
def lnk (b:Int):List Int→List Int
 | []=>[]
 | w :: r=>w :: (if r = [] then 3 else mkW 5 (b+2)) :: lnk (b+2) r
def sg:Nat→Int→List ByteArray→Tm→Sg
 | 0,_,ats,_=>⟨[],ats,0,true⟩
 | f+1,b,ats,.mk k n s l=>
  if k=1 then ⟨[],ats,mkW 0 (n+1000000),true⟩
  else if k=2 then ⟨[],(addA ats s).1,mkW 1 (addA ats s).2,decide ((addA ats s).2≥0)⟩
  else if k=3 then ⟨[],ats,mkW 2 n,true⟩
  else if k=6 then ⟨(s.size:Int) :: bsL s,ats,mkW 6 b,true⟩
  else if k=4 then ⟨(l.length:Int) :: ((sgT (sg f) l (b+1+l.length) ats).ws++(sgT (sg f) l (b+1+l.length) ats).seg),(sgT (sg f) l (b+1+l.length) ats).ats,mkW 4 b,(sgT (sg f) l (b+1+l.length) ats).ok⟩
  else if l = [] then ⟨[],ats,3,true⟩
  else ⟨lnk b (sgT (sg f) l (b+2*l.length) ats).ws++(sgT (sg f) l (b+2*l.length) ats).seg,(sgT (sg f) l (b+2*l.length) ats).ats,mkW 5 b,(sgT (sg f) l (b+2*l.length) ats).ok⟩
theorem lnk_len (b:Int) (l:List Int):(lnk b l).length=2*l.length:=by
 induction l generalizing b with
 | nil=>rfl
 | cons w r ih=>simp only [lnk,List.length_cons,ih];omega
theorem sgT_len {g:Int→List ByteArray→Tm→Sg} (l:List Tm) (b:Int) (ats:List ByteArray):(sgT g l b ats).ws.length=l.length:=by
 induction l generalizing b ats with
 | nil=>rfl
 | cons t r ih=>simp only [sgT,List.length_cons,ih]
theorem lnO_set {b:Int} (l:List Int) (hl:l≠[]) (post:List Int):(lnO b l++post).set (2*l.length-1) 3=lnk b l++post:=by
 induction l generalizing b with
 | nil=>exact absurd rfl hl
 | cons w r ih=>
  by_cases hr:r = []
  ·subst hr
   simp [lnO,lnk]
  ·have hp:0<r.length:=List.length_pos_iff.2 hr
   have e:2*(w :: r).length-1=(2*r.length-1)+1+1:=by simp;omega
   rw [e]
   simp only [lnO,lnk,List.cons_append,List.set_cons_succ,if_neg hr]
   rw [ih hr]
theorem set_app {p q:List Int} {i:Nat} {v:Int}:(p++q).set (p.length+i) v=p++q.set i v:=by
 rw [List.set_append_right _ _ (by omega),Nat.add_sub_cancel_left]
def PtSg (fr:Int) (g:PS→Tm→PS×Int×Bool) (s:Int→List ByteArray→Tm→Sg) (t:Tm):Prop:=∀ (w:List Int) (ats:List ByteArray),g (w,ats) t=((w++(s (fr+w.length) ats t).seg,(s (fr+w.length) ats t).ats),(s (fr+w.length) ats t).word,(s (fr+w.length) ats t).ok)
theorem ptT_sg {fr:Int} {g:PS→Tm→PS×Int×Bool} {s:Int→List ByteArray→Tm→Sg}:∀ (l:List Tm) (pre post:List Int) (ats:List ByteArray) (b:Int),(∀ t∈l,PtSg fr g s t)→b=fr+(pre.length:Int)+l.length+post.length →
  ptT g l pre.length (pre++(List.replicate l.length 0++post),ats)=((pre++((sgT s l b ats).ws++(post++(sgT s l b ats).seg)),(sgT s l b ats).ats),(sgT s l b ats).ok)
 | [],pre,post,ats,b,_,_=>by simp [ptT,sgT]
 | t :: r,pre,post,ats,b,h,hb=>by
  have ht:=h t (.head _) (pre++(List.replicate (t :: r).length 0++post)) ats
  have e0:fr+((pre++(List.replicate (t :: r).length 0++post)).length:Int)=b:=by
   rw [hb];simp only [List.length_append,List.length_replicate];omega
  rw [e0] at ht
  rw [ptT,ht,sgT]
  generalize s b ats t=q
  simp only
  have e1:(pre++(List.replicate (t :: r).length 0++post)++q.seg).set pre.length q.word=(pre++[q.word])++(List.replicate r.length 0++(post++q.seg)):=by
   rw [List.append_assoc,show pre.length=pre.length+0 from rfl,set_app]
   simp [List.replicate_succ]
  rw [e1,show pre.length+1=(pre++[q.word]).length from by simp]
  rw [ptT_sg r (pre++[q.word]) (post++q.seg) q.ats (b+q.seg.length) (fun u hu=>h u (.tail _ hu)) (by rw [hb];simp only [List.length_append,List.length_cons,List.length_nil];omega)]
  simp
theorem ptL_sg {fr:Int} {g:PS→Tm→PS×Int×Bool} {s:Int→List ByteArray→Tm→Sg}:∀ (l:List Tm) (pre post:List Int) (ats:List ByteArray) (b:Int),(∀ t∈l,PtSg fr g s t)→b=fr+(pre.length:Int)+2*l.length+post.length →
  ptL g fr l pre.length (pre++(List.replicate (2*l.length) 0++post),ats)=((pre++(lnO (fr+pre.length) (sgT s l b ats).ws++(post++(sgT s l b ats).seg)),(sgT s l b ats).ats),(sgT s l b ats).ok)
 | [],pre,post,ats,b,_,_=>by simp [ptL,sgT,lnO]
 | t :: r,pre,post,ats,b,h,hb=>by
  have ht:=h t (.head _) (pre++(List.replicate (2*(t :: r).length) 0++post)) ats
  have e0:fr+((pre++(List.replicate (2*(t :: r).length) 0++post)).length:Int)=b:=by
   rw [hb];simp only [List.length_append,List.length_replicate];omega
  rw [e0] at ht
  rw [ptL,ht,sgT]
  generalize s b ats t=q
  simp only
  have e1:((pre++(List.replicate (2*(t :: r).length) 0++post)++q.seg).set pre.length q.word).set (pre.length+1) (mkW 5 (fr+pre.length+2))=(pre++[q.word,mkW 5 (fr+pre.length+2)])++(List.replicate (2*r.length) 0++(post++q.seg)):=by
   have e2:∀ x:List Int,(pre++x).set pre.length q.word=pre++x.set 0 q.word:=fun x=>set_app (i:=0)
   rw [List.append_assoc,e2,set_app,show 2*(t :: r).length=2*r.length+1+1 from by simp;omega]
   simp [List.replicate_succ]
  rw [e1,show pre.length+2=(pre++[q.word,mkW 5 (fr+pre.length+2)]).length from by simp]
  rw [ptL_sg r (pre++[q.word,mkW 5 (fr+pre.length+2)]) (post++q.seg) q.ats (b+q.seg.length) (fun u hu=>h u (.tail _ hu)) (by rw [hb];simp only [List.length_append,List.length_cons,List.length_nil];omega)]
  simp only [lnO,List.length_append,List.length_cons,List.length_nil]
  rw [show fr+((pre.length+(0+1+1):Nat):Int)=fr+pre.length+2 from by omega]
  simp
theorem pt_sg {fr:Int}:∀ (f:Nat) (t:Tm),PtSg fr (pt fr f) (sg f) t
 | 0,t=>fun w ats=>by simp [pt,sg]
 | f+1,.mk k n s l=>fun w ats=>by
  have ih:=fun t (_:t∈l)=>pt_sg (fr:=fr) f t
  rw [pt,sg]
  by_cases c1:k=1
  ·simp [c1]
  rw [if_neg c1,if_neg c1]
  by_cases c2:k=2
  ·simp [c2]
  rw [if_neg c2,if_neg c2]
  by_cases c3:k=3
  ·simp [c3]
  rw [if_neg c3,if_neg c3]
  by_cases c6:k=6
  ·simp [c6]
  rw [if_neg c6,if_neg c6]
  by_cases c4:k=4
  ·rw [if_pos c4,if_pos c4]
   have e:=ptT_sg (g:=pt fr f) l (w++[(l.length:Int)]) [] ats (fr+w.length+1+l.length) ih (by simp;omega)
   rw [show (w++[(l.length:Int)]).length=w.length+1 from by simp] at e
   simp only [List.append_nil,List.nil_append,List.append_assoc,List.cons_append] at e
   simp only
   rw [e]
  rw [if_neg c4,if_neg c4]
  by_cases cl:l = []
  ·simp [cl]
  rw [if_neg cl,if_neg cl]
  have hp:0<l.length:=List.length_pos_iff.2 cl
  have e:=ptL_sg (g:=pt fr f) l w [] ats (fr+w.length+2*l.length) ih (by simp)
  simp only [List.append_nil,List.nil_append] at e
  simp only
  rw [e]
  simp only
  generalize hz:sgT (sg f) l (fr+w.length+2*l.length) ats=z
  have hl:z.ws.length=l.length:=by rw [← hz];exact sgT_len _ _ _
  have hne:z.ws≠[]:=by intro e;rw [e] at hl;simp at hl;omega
  rw [show w.length+2*l.length-1=w.length+(2*z.ws.length-1) from by omega,set_app,lnO_set _ hne]
def spl (o:List Int) (p:Nat) (s:List Int):List Int:=o.take p++(s++o.drop (p+s.length))
theorem spl_len {o s:List Int} {p:Nat} (h:p+s.length≤o.length):(spl o p s).length=o.length:=by
 unfold spl;simp only [List.length_append,List.length_take,List.length_drop];omega
theorem spl_get {o s:List Int} {p:Nat} (h:p+s.length≤o.length) (j:Nat):(spl o p s)[j]? = if j<p then o[j]? else if j<p+s.length then s[j-p]? else o[j]?:=by
 unfold spl
 have hp:(o.take p).length=p:=by rw [List.length_take];omega
 by_cases c1:j<p
 ·rw [if_pos c1,List.getElem?_append_left (by omega),List.getElem?_take_of_lt c1]
 ·rw [if_neg c1,List.getElem?_append_right (by omega),hp]
  by_cases c2:j<p+s.length
  ·rw [if_pos c2,List.getElem?_append_left (by omega)]
  ·rw [if_neg c2,List.getElem?_append_right (by omega),List.getElem?_drop]
   congr 1
   omega
theorem spl_nil (o:List Int) (p:Nat):spl o p []=o:=by simp [spl]
theorem spl_one {o:List Int} {i:Nat} {v:Int} (h:i<o.length):o.set i v=spl o i [v]:=by
 unfold spl
 rw [List.set_eq_take_append_cons_drop,if_pos h]
 rfl
theorem spl_adj {o s t:List Int} {p:Nat} (h:p+s.length+t.length≤o.length):spl (spl o p s) (p+s.length) t=spl o p (s++t):=by
 apply List.ext_getElem?
 intro j
 rw [spl_get (by rw [spl_len (by omega)];omega),spl_get (by omega),spl_get (by rw [List.length_append];omega),List.length_append]
 by_cases c1:j<p
 ·rw [if_pos (by omega),if_pos c1,if_pos c1]
 ·by_cases c2:j<p+s.length
  ·rw [if_pos c2,if_neg c1,if_pos c2,if_neg c1,if_pos (by omega),List.getElem?_append_left (by omega)]
  ·rw [if_neg c2]
   by_cases c3:j<p+s.length+t.length
   ·rw [if_pos c3,if_neg c1,if_pos (by omega),List.getElem?_append_right (by omega)]
    congr 1
    omega
   ·rw [if_neg c3,if_neg c1,if_neg c2,if_neg c1,if_neg (by omega)]
theorem spl_com {o s t:List Int} {p q:Nat} (h1:p+s.length≤q) (h2:q+t.length≤o.length):spl (spl o p s) q t=spl (spl o q t) p s:=by
 apply List.ext_getElem?
 intro j
 rw [spl_get (by rw [spl_len (by omega)];omega),spl_get (by omega),spl_get (by rw [spl_len (by omega)];omega),spl_get (by omega)]
 by_cases c1:j<p
 ·rw [if_pos (by omega),if_pos c1,if_pos c1,if_pos (by omega)]
 ·by_cases c2:j<p+s.length
  ·rw [if_pos (by omega),if_neg c1,if_pos c2,if_neg c1,if_pos c2]
  ·by_cases c3:j<q
   ·rw [if_pos c3,if_neg c1,if_neg c2,if_neg c1,if_neg c2,if_pos c3]
   ·by_cases c4:j<q+t.length
    ·rw [if_neg c3,if_pos c4,if_neg c1,if_neg c2,if_neg c3,if_pos c4]
    ·rw [if_neg c3,if_neg c4,if_neg c1,if_neg c2,if_neg c1,if_neg c2,if_neg c3,if_neg c4]
theorem spl_step {o ws sg1 sgs:List Int} {w:Int} {c bb m:Nat} (hm:m=sg1.length) (h1:c+1+ws.length≤bb) (h2:bb+sg1.length+sgs.length≤o.length):spl (spl (spl (o.set c w) bb sg1) (c+1) ws) (bb+m) sgs=spl (spl o c (w :: ws)) bb (sg1++sgs):=by
 subst hm
 have hl:(spl o c [w]).length=o.length:=spl_len (by simp only [List.length_singleton];omega)
 have e1:spl (spl o c [w]) (c+1) ws=spl o c (w :: ws):=spl_adj (s:=[w]) (by simp only [List.length_singleton];omega)
 have hl2:(spl o c (w :: ws)).length=o.length:=spl_len (by simp only [List.length_cons];omega)
 have e2:spl (spl (spl o c [w]) (c+1) ws) bb sg1=spl (spl (spl o c [w]) bb sg1) (c+1) ws:=spl_com (by omega) (by omega)
 rw [spl_one (by omega),← e2,e1,spl_adj (by omega)]
def Has (W:List Int) (p:Nat) (s:List Int):Prop:=∀ k (hk:k<s.length),W[p+k]? = some s[k]
theorem Has.app {W s t:List Int} {p:Nat} (h:Has W p (s++t)):Has W p s∧Has W (p+s.length) t:=by
 refine ⟨fun k hk=>?_,fun k hk=>?_⟩
 ·rw [h k (by rw [List.length_append];omega),List.getElem_append_left hk]
 ·rw [Nat.add_assoc,h (s.length+k) (by rw [List.length_append];omega),List.getElem_append_right (by omega)]
  simp
theorem Has.cons {W s:List Int} {x:Int} {p:Nat} (h:Has W p (x :: s)):W[p]? = some x∧Has W (p+1) s:=by
 obtain ⟨a,b⟩:=Has.app (s:=[x]) (t:=s) h
 exact ⟨a 0 (by simp),b⟩
theorem sgT_ind {f:Nat} (ih:∀ t b b' ats,(sg f b ats t).ats=(sg f b' ats t).ats∧(sg f b ats t).ok=(sg f b' ats t).ok∧(sg f b ats t).seg.length=(sg f b' ats t).seg.length):∀ (l:List Tm) (b b':Int) (ats:List ByteArray),(sgT (sg f) l b ats).ats=(sgT (sg f) l b' ats).ats∧(sgT (sg f) l b ats).ok=(sgT (sg f) l b' ats).ok∧(sgT (sg f) l b ats).seg.length=(sgT (sg f) l b' ats).seg.length
 | [],b,b',ats=>⟨rfl,rfl,rfl⟩
 | t :: r,b,b',ats=>by
  obtain ⟨a1,a2,a3⟩:=ih t b b' ats
  obtain ⟨b1,b2,b3⟩:=sgT_ind ih r (b+(sg f b ats t).seg.length) (b'+(sg f b' ats t).seg.length) (sg f b ats t).ats
  simp only [sgT]
  rw [← a1]
  exact ⟨b1,by rw [a2,b2],by rw [List.length_append,List.length_append,b3,a3]⟩
theorem sg_ind:∀ (f:Nat) (t:Tm) (b b':Int) (ats:List ByteArray),(sg f b ats t).ats=(sg f b' ats t).ats∧(sg f b ats t).ok=(sg f b' ats t).ok∧(sg f b ats t).seg.length=(sg f b' ats t).seg.length
 | 0,t,b,b',ats=>⟨rfl,rfl,rfl⟩
 | f+1,.mk k n s l,b,b',ats=>by
  have ih:=sgT_ind (sg_ind f)
  rw [sg,sg]
  by_cases c1:k=1
  ·simp only [if_pos c1];exact ⟨trivial,trivial,trivial⟩
  simp only [if_neg c1]
  by_cases c2:k=2
  ·simp only [if_pos c2];exact ⟨trivial,trivial,trivial⟩
  simp only [if_neg c2]
  by_cases c3:k=3
  ·simp only [if_pos c3];exact ⟨trivial,trivial,trivial⟩
  simp only [if_neg c3]
  by_cases c6:k=6
  ·simp only [if_pos c6];exact ⟨trivial,trivial,trivial⟩
  simp only [if_neg c6]
  by_cases c4:k=4
  ·simp only [if_pos c4]
   obtain ⟨i1,i2,i3⟩:=ih l (b+1+l.length) (b'+1+l.length) ats
   refine ⟨i1,i2,?_⟩
   simp only [List.length_cons,List.length_append,sgT_len,i3]
  simp only [if_neg c4]
  by_cases cl:l = []
  ·simp only [if_pos cl];exact ⟨trivial,trivial,trivial⟩
  simp only [if_neg cl]
  obtain ⟨i1,i2,i3⟩:=ih l (b+2*l.length) (b'+2*l.length) ats
  refine ⟨i1,i2,?_⟩
  simp only [List.length_append,lnk_len,sgT_len,i3]
theorem sg_len {f:Nat} {t:Tm} (hw:Wf f t) (b:Int) (ats:List ByteArray):(sg f b ats t).seg.length=needT f t:=by
 have a:=(pt_ok (fr:=b) f t hw ([],ats)).1
 rw [pt_sg f t] at a
 simpa using a
def movW (w by_:Int):Int:=if inB (tagW w) 4 6=true then mkW (tagW w) (valW w+by_) else w
theorem mk_tag {t v:Int} (ht:0≤t∧t≤6) (hv:0≤v∧v≤4000000):tagW (mkW t v)=t∧valW (mkW t v)=v∧0≤mkW t v∧mkW t v≤40000000:=by
 have e:mkW t v=t+8*v:=by
  unfold mkW
  rw [if_pos (by unfold inB;simp;omega),if_pos (by unfold inB;simp;omega)]
 rw [e]
 unfold tagW valW
 rw [if_neg (by omega),if_neg (by omega)]
 omega
theorem mk_low {t v:Int} (ht:0≤t∧t≤3):tagW (mkW t v)≤3∧0≤mkW t v∧mkW t v≤40000000:=by
 by_cases hv:0≤v∧v≤4000000
 ·obtain ⟨a,b,c,d⟩:=mk_tag (t:=t) (v:=v) (by omega) hv
  omega
 ·have e:mkW t v=0:=by
   unfold mkW
   by_cases hi:inB t 0 6=true
   ·rw [if_pos hi,if_neg (by unfold inB;simp;omega)]
   ·rw [if_neg hi]
  rw [e]
  exact ⟨by decide,by decide,by decide⟩
theorem mov_low {w b:Int} (h:tagW w≤3):movW w b=w:=by
 unfold movW
 rw [if_neg (by unfold inB;simp;omega)]
theorem mov_mk {t v b:Int} (ht:4≤t∧t≤6) (hv:0≤v∧v≤4000000):movW (mkW t v) b=mkW t (v+b):=by
 obtain ⟨a,b',_⟩:=mk_tag (t:=t) (by omega) hv
 unfold movW
 rw [a,b',if_pos (by unfold inB;simp;omega)]
theorem sg_word {f:Nat} {t:Tm} {b by_:Int} {ats:List ByteArray} (hb:0≤b∧b≤1000000) (hy:0≤by_∧by_≤1000000):movW (sg f b ats t).word by_=(sg f (b+by_) ats t).word∧0≤(sg f b ats t).word∧(sg f b ats t).word≤40000000:=by
 cases f with
 | zero=>exact ⟨by simp only [sg];exact mov_low (by decide),by simp [sg],by simp [sg]⟩
 | succ f=>
  obtain ⟨k,n,s,l⟩:=t
  rw [sg,sg]
  by_cases c1:k=1
  ·simp only [if_pos c1]
   have:=mk_low (t:=0) (v:=n+1000000) (by omega)
   exact ⟨mov_low this.1,this.2⟩
  simp only [if_neg c1]
  by_cases c2:k=2
  ·simp only [if_pos c2]
   have:=mk_low (t:=1) (v:=(addA ats s).2) (by omega)
   exact ⟨mov_low this.1,this.2⟩
  simp only [if_neg c2]
  by_cases c3:k=3
  ·simp only [if_pos c3]
   have:=mk_low (t:=2) (v:=n) (by omega)
   exact ⟨mov_low this.1,this.2⟩
  simp only [if_neg c3]
  by_cases c6:k=6
  ·simp only [if_pos c6]
   exact ⟨mov_mk (by omega) (by omega),(mk_tag (by omega) (by omega)).2.2⟩
  simp only [if_neg c6]
  by_cases c4:k=4
  ·simp only [if_pos c4]
   exact ⟨mov_mk (by omega) (by omega),(mk_tag (by omega) (by omega)).2.2⟩
  simp only [if_neg c4]
  by_cases cl:l = []
  ·simp only [if_pos cl]
   exact ⟨mov_low (by decide),by decide,by decide⟩
  simp only [if_neg cl]
  exact ⟨mov_mk (by omega) (by omega),(mk_tag (by omega) (by omega)).2.2⟩
theorem l6Moved_run {base:Nat} {h:AH} {w b:Int} (hw:0≤w∧w≤40000000) (hb:0≤b∧b≤1000000):run (Et base) 216 [.int .i64 w,.int .i64 b] h=some (.int .i64 (movW w b),h):=by
 have hv:0≤valW w∧valW w≤40000000:=by
  unfold valW
  rw [if_neg (by omega)]
  omega
 suffices W:Wp (run (Et base) 216 [.int .i64 w,.int .i64 b] h) fun o=>o=(.int .i64 (movW w b),h) by
  obtain ⟨o,e,rfl⟩:=W
  exact e
 refine W.of (fun r hx=>Am.r216 hx) ?_
 refine W.bs specTag_run (W.bI rfl ?_)
 refine W.bs l1In_run (W.bB rfl ?_)
 unfold movW
 refine W.ite (fun c=>?_) (fun c=>?_)
 ·rw [if_pos c]
  refine W.bs specTag_run (W.bI rfl ?_)
  refine W.bs (specVal_run (by omega)) (W.bI rfl ?_)
  rw [w64i (n:=valW w+b) (by omega) (by omega)]
  exact W.bs specMk_run (W.bI rfl (W.ret rfl))
 ·rw [if_neg c]
  exact W.ret rfl
abbrev rSl (P:Fp) (a:Option Addr) (Z:List Int):Rs:=⟨P,false,fun y=>Sl y a (iv .i64 Z)⟩
theorem Hs.rdW {base j:Nat} {V:Fp} {h0 h:AH} {D:Ds} {R:List Rs} {P:Fp} {a:Option Addr} {Z:List Int} {v:Int} (d:Hs base V h0 h D (rSl P a Z :: R)) (hj:Z[j]? = some v):j<Z.length∧∃ ad,a=some ad∧Am.cell h ad.block (ad.off+j)=some (.int .i64 v):=by
 obtain ⟨hlt,e⟩:=List.getElem?_eq_some_iff.1 hj
 obtain ⟨ad,h1,h2⟩:=(d.rs (i:=0) rfl:Sl h a (iv .i64 Z)).cell (i:=j) (v:=.int .i64 v) (by simp [iv,hj])
 exact ⟨hlt,ad,h1,h2⟩
def ShR (base f:Nat):Prop:=∀ (t:Tm) (b:Nat) (by_:Int) (ats:List ByteArray) (Z out:List Int) (P:Fp) (a c:Option Addr) (V:Fp) (h0 h:AH) (D:Ds) (R:List Rs),Wf f t→Has Z b (sg f b ats t).seg→b+(sg f b ats t).seg.length≤Z.length→Z.length≤100000→out.length=Z.length→(0≤by_∧by_≤200000) →
 Hs base V h0 h D (rSl P a Z :: rW base c out :: R) →
 Wp (run (Et base) 215 [.slice a Z.length Z.length,.slice c Z.length Z.length,.int .i64 (sg f b ats t).word,.int .i64 by_] h) fun o=>o.1 = .tuple #[]∧Hs base V h0 o.2 D (rSl P a Z :: rW base c (spl out b (sg f (b+by_) ats t).seg) :: R)
theorem shBin_loop {base:Nat} {Z:List Int} {P:Fp} {a:Option Addr} {V:Fp} {h0:AH} {D:Ds} {R:List Rs} {b n:Nat} {s:List Int} {out:List Int} {c:Option Addr} (hs:s.length=n+1) (hn:n≤40) (hh:Has Z b s) (h0s:Z[b]? = some (n:Int)) (hW:Z.length≤100000) (hb:b+s.length≤Z.length) (ho:out.length=Z.length):∀ (r i:Nat) (h:AH),i+r=n+1→Hs base V h0 h D (rSl P a Z :: rW base c (spl out b (s.take i)) :: R) →
  Wp (loopL (B215_0 base) [some (.slice a Z.length Z.length),some (.slice c Z.length Z.length),some (.int .i64 (b:Int)),some (.int .i64 ((b+i:Nat):Int))] h) fun o=>o.1=3∧Hs base V h0 o.2.2 D (rSl P a Z :: rW base c (spl out b s) :: R):=by
 intro r
 induction r with
 | zero=>
  intro i h hi d
  obtain ⟨hl1,ad,rfl,g⟩:=d.rdW h0s
  suffices w1:Wp (B215_0 base [some (.slice (some ad) Z.length Z.length),some (.slice c Z.length Z.length),some (.int .i64 (b:Int)),some (.int .i64 ((b+i:Nat):Int))] h) fun o=>o=(3,[],h) by
   obtain ⟨o,e,rfl⟩:=w1
   refine ⟨_,loop_off (by decide) e,rfl,?_⟩
   rw [List.take_of_length_le (by omega)] at d
   exact d
  rw [B215_0_eq]
  refine W.ifT ⟨by omega,by omega⟩ (W.bs rfl (W.bI (by rw [Int.toNat_natCast,Nat.mul_one];exact g) ?_))
  rw [w64i (n:=(b:Int)+n) (by omega) (by omega)]
  exact W.ifF (by simp;omega) (W.ret rfl)
 | succ r ihr=>
  intro i h hi d
  have hlt:i<s.length:=by omega
  obtain ⟨hl1,ad,rfl,g⟩:=d.rdW h0s
  have hsi:=hh i hlt
  obtain ⟨hl2,ad2,e2,g2⟩:=d.rdW hsi
  injection e2 with e2
  subst e2
  suffices w1:Wp (B215_0 base [some (.slice (some ad) Z.length Z.length),some (.slice c Z.length Z.length),some (.int .i64 (b:Int)),some (.int .i64 ((b+i:Nat):Int))] h) fun o=>o.1=0∧o.2.1 = [some (.slice (some ad) Z.length Z.length),some (.slice c Z.length Z.length),some (.int .i64 (b:Int)),some (.int .i64 ((b+(i+1):Nat):Int))]∧Hs base V h0 o.2.2 D (rSl P (some ad) Z :: rW base c (spl out b (s.take (i+1))) :: R) by
   obtain ⟨⟨o1,o2,h'⟩,e,y1,y2,d'⟩:=w1
   simp only at y1 y2 d'
   subst y1;subst y2
   obtain ⟨o,eo,q⟩:=ihr (i+1) h' (by omega) d'
   exact ⟨o,loop_on e eo,q⟩
  rw [B215_0_eq]
  refine W.ifT ⟨by omega,by omega⟩ (W.bs rfl (W.bI (by rw [Int.toNat_natCast,Nat.mul_one];exact g) ?_))
  rw [w64i (n:=(b:Int)+n) (by omega) (by omega),w64i (n:=((b+i:Nat):Int)+1) (by omega) (by omega)]
  refine W.ifT (decide_eq_true (by omega)) (W.ifT ⟨by omega,by omega⟩ (W.bs rfl (W.bI (by rw [Int.toNat_natCast,Nat.mul_one];exact g2) (W.ifT ⟨by omega,by omega⟩ ?_))))
  have hti:(s.take i).length=i:=by rw [List.length_take];omega
  obtain ⟨ad3,h5,ea,ew,d,_⟩:=d.setW (i:=1) (j:=b+i) (v:=s[i]) rfl (by rw [spl_len (by omega)];omega)
  subst ea
  refine W.bs rfl (W.bs (by rw [Int.toNat_natCast,Nat.mul_one];exact ew) ?_)
  have es:(spl out b (s.take i)).set (b+i) s[i]=spl out b (s.take (i+1)):=by
   rw [spl_one (by rw [spl_len (by omega)];omega),List.take_succ_eq_append_getElem hlt]
   have:=spl_adj (o:=out) (p:=b) (s:=s.take i) (t:=[s[i]]) (by simp only [List.length_singleton];omega)
   rw [hti] at this
   exact this
  rw [es] at d
  exact W.ret ⟨rfl,rfl,d⟩
theorem shLow {base:Nat} {h:AH} {a c:Option Addr} {n:Nat} {w b:Int} (hw:0≤w∧w≤40000000) (ht:tagW w≤3):Wp (run (Et base) 215 [.slice a n n,.slice c n n,.int .i64 w,.int .i64 b] h) fun o=>o=(.tuple #[],h):=by
 refine W.of (fun r hx=>Am.r215 hx) ?_
 refine W.bs (specVal_run (by omega)) (W.bI rfl (W.bs specTag_run (W.bI rfl ?_)))
 refine W.ifF (by simp;omega) (W.ifF (by simp;omega) (W.ifF (by simp;omega) (W.ret rfl)))
theorem shCell1 {base:Nat} {Z:List Int} {P:Fp} {a:Option Addr} {V:Fp} {h0 h:AH} {D:Ds} {R:List Rs} {out out2:List Int} {c:Option Addr} {v i n:Nat} {w by_:Int} (hv:Z[v]? = some (n:Int)) (hi:i≤v+n) (hZ:Z.length≤100000) (hn:n≤8) (hz:Z[i]? = some w) (hw:0≤w∧w≤40000000) (hby:0≤by_∧by_≤200000) (ho:out.length=Z.length) (d:Hs base V h0 h D (rSl P a Z :: rW base c out :: R))
  (hc:∀ h1,Hs base V h0 h1 D (rSl P a Z :: rW base c (out.set i (movW w by_)) :: R)→Wp (run (Et base) 215 [.slice a Z.length Z.length,.slice c Z.length Z.length,.int .i64 w,.int .i64 by_] h1) fun o=>o.1 = .tuple #[]∧Hs base V h0 o.2 D (rSl P a Z :: rW base c out2 :: R)) :
  Wp (B215_1 base [some (.slice a Z.length Z.length),some (.slice c Z.length Z.length),some (.int .i64 by_),some (.int .i64 (v:Int)),some (.int .i64 (i:Int))] h) fun o=>o.1=0∧o.2.1 = [some (.slice a Z.length Z.length),some (.slice c Z.length Z.length),some (.int .i64 by_),some (.int .i64 (v:Int)),some (.int .i64 ((i+1:Nat):Int))]∧Hs base V h0 o.2.2 D (rSl P a Z :: rW base c out2 :: R):=by
 obtain ⟨hl1,ad,rfl,g⟩:=d.rdW hv
 obtain ⟨hl2,ad2,e2,g2⟩:=d.rdW hz
 injection e2 with e2
 subst e2
 rw [B215_1_eq]
 refine W.ifT ⟨by omega,by omega⟩ (W.bs rfl (W.bI (by rw [Int.toNat_natCast,Nat.mul_one];exact g) ?_))
 rw [w64i (n:=(v:Int)+n) (by omega) (by omega),w64i (n:=(i:Int)+1) (by omega) (by omega)]
 refine W.ifT (decide_eq_true (by omega)) (W.ifT ⟨by omega,by omega⟩ (W.bs rfl (W.bI (by rw [Int.toNat_natCast,Nat.mul_one];exact g2) ?_)))
 refine W.bs (l6Moved_run hw (by omega)) (W.bI rfl (W.ifT ⟨by omega,by omega⟩ ?_))
 obtain ⟨ad3,h5,ea,ew,d,_⟩:=d.setW (i:=1) (j:=i) (v:=movW w by_) rfl (by omega)
 subst ea
 refine W.bs rfl (W.bs (by rw [Int.toNat_natCast,Nat.mul_one];exact ew) ?_)
 obtain ⟨_,ad4,e4,g4⟩:=d.rdW hz
 injection e4 with e4
 subst e4
 refine W.ifT ⟨by omega,by omega⟩ (W.bs rfl (W.bI (by rw [Int.toNat_natCast,Nat.mul_one];exact g4) ?_))
 refine W.wb (hc _ d) ?_
 rintro ⟨o1,h6⟩ ⟨y1,d6⟩
 simp only at y1 d6
 subst y1
 exact W.bs rfl (W.ret ⟨rfl,rfl,d6⟩)
theorem shCell2 {base:Nat} {Z:List Int} {P:Fp} {a:Option Addr} {V:Fp} {h0 h:AH} {D:Ds} {R:List Rs} {out out2:List Int} {c:Option Addr} {v i:Nat} {w by_:Int} (hi:i<v+2) (hZ:Z.length≤100000) (hv:v≤100000) (hz:Z[i]? = some w) (hw:0≤w∧w≤40000000) (hby:0≤by_∧by_≤200000) (ho:out.length=Z.length) (d:Hs base V h0 h D (rSl P a Z :: rW base c out :: R))
  (hc:∀ h1,Hs base V h0 h1 D (rSl P a Z :: rW base c (out.set i (movW w by_)) :: R)→Wp (run (Et base) 215 [.slice a Z.length Z.length,.slice c Z.length Z.length,.int .i64 w,.int .i64 by_] h1) fun o=>o.1 = .tuple #[]∧Hs base V h0 o.2 D (rSl P a Z :: rW base c out2 :: R)) :
  Wp (B215_2 base [some (.slice a Z.length Z.length),some (.slice c Z.length Z.length),some (.int .i64 by_),some (.int .i64 (v:Int)),some (.int .i64 (i:Int))] h) fun o=>o.1=0∧o.2.1 = [some (.slice a Z.length Z.length),some (.slice c Z.length Z.length),some (.int .i64 by_),some (.int .i64 (v:Int)),some (.int .i64 ((i+1:Nat):Int))]∧Hs base V h0 o.2.2 D (rSl P a Z :: rW base c out2 :: R):=by
 obtain ⟨hl2,ad2,rfl,g2⟩:=d.rdW hz
 rw [B215_2_eq]
 rw [w64i (n:=(v:Int)+2) (by omega) (by omega),w64i (n:=(i:Int)+1) (by omega) (by omega)]
 refine W.ifT (decide_eq_true (by omega)) (W.ifT ⟨by omega,by omega⟩ (W.bs rfl (W.bI (by rw [Int.toNat_natCast,Nat.mul_one];exact g2) ?_)))
 refine W.bs (l6Moved_run hw (by omega)) (W.bI rfl (W.ifT ⟨by omega,by omega⟩ ?_))
 obtain ⟨ad3,h5,ea,ew,d,_⟩:=d.setW (i:=1) (j:=i) (v:=movW w by_) rfl (by omega)
 subst ea
 refine W.bs rfl (W.bs (by rw [Int.toNat_natCast,Nat.mul_one];exact ew) ?_)
 obtain ⟨_,ad4,e4,g4⟩:=d.rdW hz
 injection e4 with e4
 subst e4
 refine W.ifT ⟨by omega,by omega⟩ (W.bs rfl (W.bI (by rw [Int.toNat_natCast,Nat.mul_one];exact g4) ?_))
 refine W.wb (hc _ d) ?_
 rintro ⟨o1,h6⟩ ⟨y1,d6⟩
 simp only at y1 d6
 subst y1
 exact W.bs rfl (W.ret ⟨rfl,rfl,d6⟩)
theorem shTup_loop {base f:Nat} (ih:ShR base f) {Z:List Int} {P:Fp} {a:Option Addr} {V:Fp} {h0:AH} {D:Ds} {R:List Rs} {c:Option Addr} {v n:Nat} {by_:Int} (hv:Z[v]? = some (n:Int)) (hZ:Z.length≤100000) (hn:n≤8) (hby:0≤by_∧by_≤200000):∀ (r:List Tm) (ci bb:Nat) (ats:List ByteArray) (out:List Int) (h:AH),(∀ t∈r,Wf f t)→Has Z ci (sgT (sg f) r bb ats).ws→Has Z bb (sgT (sg f) r bb ats).seg→ci+r.length≤bb→bb+(sgT (sg f) r bb ats).seg.length≤Z.length→ci+r.length=v+1+n→out.length=Z.length→Hs base V h0 h D (rSl P a Z :: rW base c out :: R) →
  Wp (loopL (B215_1 base) [some (.slice a Z.length Z.length),some (.slice c Z.length Z.length),some (.int .i64 by_),some (.int .i64 (v:Int)),some (.int .i64 (ci:Int))] h) fun o=>o.1=5∧Hs base V h0 o.2.2 D (rSl P a Z :: rW base c (spl (spl out ci (sgT (sg f) r (bb+by_) ats).ws) bb (sgT (sg f) r (bb+by_) ats).seg) :: R)
 | [],ci,bb,ats,out,h,hwf,h1,h2,h3,h4,h5,ho,d=>by
  obtain ⟨hl1,ad,rfl,g⟩:=d.rdW hv
  simp only [List.length_nil] at h5
  suffices w1:Wp (B215_1 base [some (.slice (some ad) Z.length Z.length),some (.slice c Z.length Z.length),some (.int .i64 by_),some (.int .i64 (v:Int)),some (.int .i64 (ci:Int))] h) fun o=>o=(5,[],h) by
   obtain ⟨o,e,rfl⟩:=w1
   refine ⟨_,loop_off (by decide) e,rfl,?_⟩
   simp only [sgT,spl_nil]
   exact d
  rw [B215_1_eq]
  refine W.ifT ⟨by omega,by omega⟩ (W.bs rfl (W.bI (by rw [Int.toNat_natCast,Nat.mul_one];exact g) ?_))
  rw [w64i (n:=(v:Int)+n) (by omega) (by omega)]
  exact W.ifF (by simp;omega) (W.ret rfl)
 | t :: r,ci,bb,ats,out,h,hwf,h1,h2,h3,h4,h5,ho,d=>by
  simp only [List.length_cons] at h3 h5
  rw [sgT] at h1 h2 h4
  simp only at h1 h2 h4
  rw [sgT]
  simp only
  have hq:=sg_ind f t bb (bb+by_) ats
  obtain ⟨hm,hw1,hw2⟩:=sg_word (f:=f) (t:=t) (b:=bb) (by_:=by_) (ats:=ats) (by omega) (by omega)
  obtain ⟨i1,i2⟩:=h1.cons
  obtain ⟨j1,j2⟩:=h2.app
  rw [List.length_append] at h4
  have hc:=ih t bb by_ ats Z (out.set ci (movW (sg f bb ats t).word by_)) P a c V h0
  rw [← hq.1,← hq.2.2]
  have e1:(bb:Int)+by_+((sg f bb ats t).seg.length:Int)=((bb+(sg f bb ats t).seg.length:Nat):Int)+by_:=by omega
  have e2:((bb:Int)+((sg f bb ats t).seg.length:Int))=((bb+(sg f bb ats t).seg.length:Nat):Int):=by omega
  rw [e1]
  rw [e2] at i2 j2 h4
  have hqi:=sgT_ind (sg_ind f) r ((bb+(sg f bb ats t).seg.length:Nat):Int) (((bb+(sg f bb ats t).seg.length:Nat):Int)+by_) (sg f bb ats t).ats
  have w1:=shCell1 (out2:=spl (out.set ci (movW (sg f bb ats t).word by_)) bb (sg f (bb+by_) ats t).seg) hv (i:=ci) (by omega) hZ hn i1 ⟨hw1,hw2⟩ hby ho d fun h1 d1=>hc h1 D R (hwf t (.head _)) j1 (by omega) hZ (by rw [List.length_set];exact ho) hby d1
  obtain ⟨⟨o1,o2,h'⟩,e,y1,y2,d'⟩:=w1
  simp only at y1 y2 d'
  subst y1;subst y2
  obtain ⟨o,eo,q1,q2⟩:=shTup_loop ih hv hZ hn hby r (ci+1) (bb+(sg f bb ats t).seg.length) (sg f bb ats t).ats _ h' (fun u hu=>hwf u (.tail _ hu)) i2 j2 (by omega) (by omega) (by omega) (by rw [spl_len (by rw [List.length_set];omega),List.length_set];exact ho) d'
  refine ⟨o,loop_on e eo,q1,?_⟩
  rw [spl_step hq.2.2 (by rw [sgT_len];omega) (by omega),hm] at q2
  exact q2
theorem spl_set {o s:List Int} {p i:Nat} {v:Int} (h1:i<p) (h2:p+s.length≤o.length):(spl o p s).set i v=spl (o.set i v) p s:=by
 rw [spl_one (by rw [spl_len h2];omega),spl_one (by omega)]
 exact (spl_com (p:=i) (s:=[v]) (by simp only [List.length_singleton];omega) h2).symm
theorem spl_cons {o s:List Int} {p:Nat} {v:Int} (h:p+1+s.length≤o.length):spl (o.set p v) (p+1) s=spl o p (v :: s):=by
 rw [spl_one (by omega)]
 exact spl_adj (s:=[v]) (by simp only [List.length_singleton];omega)
theorem spl_step2 {o L s1 sgs:List Int} {w l:Int} {c bb m:Nat} (hm:m=s1.length) (h1:c+2+L.length≤bb) (h2:bb+s1.length+sgs.length≤o.length):spl (spl ((spl (o.set c w) bb s1).set (c+1) l) (c+2) L) (bb+m) sgs=spl (spl o c (w :: l :: L)) bb (s1++sgs):=by
 rw [spl_set (by omega) (by rw [List.length_set];omega)]
 have e:=spl_step (o:=o.set c w) (ws:=L) (sg1:=s1) (sgs:=sgs) (w:=l) (c:=c+1) (bb:=bb) hm (by omega) (by rw [List.length_set];omega)
 rw [show c+2=c+1+1 from rfl,e,spl_cons (by simp only [List.length_cons];omega)]
theorem shCons_run {base f:Nat} (ih:ShR base f) {Z:List Int} {P:Fp} {a:Option Addr} {V:Fp} {h0:AH} {D:Ds} {R:List Rs} {c:Option Addr} {by_:Int} (hZ:Z.length≤100000) (hby:0≤by_∧by_≤200000):∀ (r:List Tm) (ci bb:Nat) (ats:List ByteArray) (out:List Int) (h:AH),r≠[]→(∀ t∈r,Wf f t)→Has Z ci (lnk ci (sgT (sg f) r bb ats).ws)→Has Z bb (sgT (sg f) r bb ats).seg→ci+2*r.length≤bb→bb+(sgT (sg f) r bb ats).seg.length≤Z.length→out.length=Z.length→Hs base V h0 h D (rSl P a Z :: rW base c out :: R) →
  Wp (run (Et base) 215 [.slice a Z.length Z.length,.slice c Z.length Z.length,.int .i64 (mkW 5 ci),.int .i64 by_] h) fun o=>o.1 = .tuple #[]∧Hs base V h0 o.2 D (rSl P a Z :: rW base c (spl (spl out ci (lnk (ci+by_) (sgT (sg f) r (bb+by_) ats).ws)) bb (sgT (sg f) r (bb+by_) ats).seg) :: R)
 | [],ci,bb,ats,out,h,hne,hwf,h1,h2,h3,h4,ho,d=>absurd rfl hne
 | t :: r,ci,bb,ats,out,h,hne,hwf,h1,h2,h3,h4,ho,d=>by
  simp only [List.length_cons] at h3
  rw [sgT] at h1 h2 h4
  simp only [lnk] at h1
  simp only at h2 h4
  have hq:=sg_ind f t bb (bb+by_) ats
  obtain ⟨hm,hw1,hw2⟩:=sg_word (f:=f) (t:=t) (b:=bb) (by_:=by_) (ats:=ats) (by omega) (by omega)
  obtain ⟨i1,i2⟩:=h1.cons
  obtain ⟨i2,i3⟩:=i2.cons
  obtain ⟨j1,j2⟩:=h2.app
  rw [List.length_append] at h4
  have e1:(bb:Int)+by_+((sg f bb ats t).seg.length:Int)=((bb+(sg f bb ats t).seg.length:Nat):Int)+by_:=by omega
  have e2:((bb:Int)+((sg f bb ats t).seg.length:Int))=((bb+(sg f bb ats t).seg.length:Nat):Int):=by omega
  rw [e2] at i2 i3 j2 h4
  have hqi:=sgT_ind (sg_ind f) r ((bb+(sg f bb ats t).seg.length:Nat):Int) (((bb+(sg f bb ats t).seg.length:Nat):Int)+by_) (sg f bb ats t).ats
  obtain ⟨tg,vl,u1,u2⟩:=mk_tag (t:=5) (v:=(ci:Int)) (by omega) (by omega)
  have w1:=shCell2 (base:=base) (h:=h) (v:=ci) (out2:=spl (out.set ci (movW (sg f bb ats t).word by_)) bb (sg f (bb+by_) ats t).seg) (i:=ci) (by omega) hZ (by omega) i1 ⟨hw1,hw2⟩ hby ho d fun h1 d1=>ih t bb by_ ats Z _ P a c V h0 h1 D R (hwf t (.head _)) j1 (by omega) hZ (by rw [List.length_set];exact ho) hby d1
  obtain ⟨⟨o1,o2,ha⟩,ea,y1,y2,da⟩:=w1
  simp only at y1 y2 da
  subst y1;subst y2
  have hlo:(spl (out.set ci (movW (sg f bb ats t).word by_)) bb (sg f (bb+by_) ats t).seg).length=Z.length:=by
   rw [spl_len (by rw [List.length_set];omega),List.length_set];exact ho
  have fin:∃ out2,Wp (B215_2 base [some (.slice a Z.length Z.length),some (.slice c Z.length Z.length),some (.int .i64 by_),some (.int .i64 (ci:Int)),some (.int .i64 ((ci+1:Nat):Int))] ha) (fun o=>o.1=0∧o.2.1 = [some (.slice a Z.length Z.length),some (.slice c Z.length Z.length),some (.int .i64 by_),some (.int .i64 (ci:Int)),some (.int .i64 ((ci+1+1:Nat):Int))]∧Hs base V h0 o.2.2 D (rSl P a Z :: rW base c out2 :: R))∧out2=spl (spl out ci (lnk (ci+by_) (sgT (sg f) (t :: r) (bb+by_) ats).ws)) bb (sgT (sg f) (t :: r) (bb+by_) ats).seg:=by
   by_cases hr:r = []
   ·subst hr
    simp only [sgT,if_true] at i2
    refine ⟨_,shCell2 (base:=base) (h:=ha) (v:=ci) (i:=ci+1) (out2:=(spl (out.set ci (movW (sg f bb ats t).word by_)) bb (sg f (bb+by_) ats t).seg).set (ci+1) 3) (by omega) hZ (by omega) i2 (by omega) hby hlo da fun h1 d1=>?_,?_⟩
    ·refine W.imp ?_ (shLow (w:=3) (by omega) (by decide))
     rintro ⟨o1,o2⟩ e
     injection e with e e'
     subst e;subst e'
     exact ⟨rfl,d1⟩
    ·have e:=spl_step2 (o:=out) (L:=[]) (s1:=(sg f (bb+by_) ats t).seg) (sgs:=[]) (w:=movW (sg f bb ats t).word by_) (l:=3) (c:=ci) (bb:=bb) rfl (by simp only [List.length_nil] at h3 ⊢;omega) (by simp only [List.length_nil];omega)
     rw [spl_nil,spl_nil] at e
     rw [e,hm]
     simp [sgT,lnk]
   ·have hwne:(sgT (sg f) r ((bb+(sg f bb ats t).seg.length:Nat):Int) (sg f bb ats t).ats).ws≠[]:=by
     intro e
     have:=sgT_len (g:=sg f) r ((bb+(sg f bb ats t).seg.length:Nat):Int) (sg f bb ats t).ats
     rw [e] at this
     exact hr (List.eq_nil_of_length_eq_zero this.symm)
    rw [if_neg hwne] at i2
    have hmv:movW (mkW 5 ((ci:Int)+2)) by_=mkW 5 ((ci:Int)+2+by_):=mov_mk (by omega) (by omega)
    have hmb:=(mk_tag (t:=5) (v:=(ci:Int)+2) (by omega) (by omega)).2.2
    have hz:=fun (h1:AH) (d1:Hs base V h0 h1 D (rSl P a Z :: rW base c ((spl (out.set ci (movW (sg f bb ats t).word by_)) bb (sg f (bb+by_) ats t).seg).set (ci+1) (movW (mkW 5 ((ci:Int)+2)) by_)) :: R))=>shCons_run ih hZ hby r (ci+2) (bb+(sg f bb ats t).seg.length) (sg f bb ats t).ats _ h1 hr (fun u hu=>hwf u (.tail _ hu)) i3 j2 (by omega) (by omega) (by rw [List.length_set];exact hlo) d1
    refine ⟨_,shCell2 (base:=base) (h:=ha) (v:=ci) (i:=ci+1) (by omega) hZ (by omega) i2 hmb hby hlo da hz,?_⟩
    ·rw [hmv]
     have e:=spl_step2 (o:=out) (L:=lnk (((ci+2:Nat):Int)+by_) (sgT (sg f) r (((bb+(sg f bb ats t).seg.length:Nat):Int)+by_) (sg f bb ats t).ats).ws) (s1:=(sg f (bb+by_) ats t).seg) (sgs:=(sgT (sg f) r (((bb+(sg f bb ats t).seg.length:Nat):Int)+by_) (sg f bb ats t).ats).seg) (w:=movW (sg f bb ats t).word by_) (l:=mkW 5 ((ci:Int)+2+by_)) (c:=ci) (bb:=bb) hq.2.2 (by rw [lnk_len,sgT_len];omega) (by omega)
     rw [e,hm]
     have hwne2:(sgT (sg f) r (((bb+(sg f bb ats t).seg.length:Nat):Int)+by_) (sg f bb ats t).ats).ws≠[]:=by
      intro e
      have:=sgT_len (g:=sg f) r (((bb+(sg f bb ats t).seg.length:Nat):Int)+by_) (sg f bb ats t).ats
      rw [e] at this
      exact hr (List.eq_nil_of_length_eq_zero this.symm)
     rw [sgT]
     simp only [lnk]
     rw [← hq.1,← hq.2.2,e1,if_neg hwne2,show (ci:Int)+by_+2=(ci:Int)+2+by_ from by omega,show ((ci+2:Nat):Int)+by_=(ci:Int)+2+by_ from by omega]
  obtain ⟨out2,⟨⟨o1,o2,hb'⟩,eb,y1,y2,db⟩,eo⟩:=fin
  simp only at y1 y2 db
  subst y1;subst y2
  rw [eo] at db
  refine W.of (fun r hx=>Am.r215 hx) ?_
  refine W.bs (specVal_run (by omega)) (W.bI rfl (W.bs specTag_run (W.bI rfl ?_)))
  rw [tg,vl]
  refine W.ifF (by decide) (W.ifF (by decide) (W.ifT (by decide) ?_))
  have ec:B215_2 base [some (.slice a Z.length Z.length),some (.slice c Z.length Z.length),some (.int .i64 by_),some (.int .i64 (ci:Int)),some (.int .i64 ((ci+1+1:Nat):Int))] hb'=some (7,[],hb'):=by
   rw [B215_2_eq,w64i (n:=(ci:Int)+2) (by omega) (by omega)]
   exact ifF (by simp;omega) rfl
  exact W.bs (loop_on ea (loop_on eb (loop_off (by decide) ec))) (W.ifT rfl (W.ret ⟨rfl,db⟩))
theorem sh_succ {base f:Nat} (ih:ShR base f):ShR base (f+1):=by
 intro t b by_ ats Z out P a c V h0 h D R hwf hh hl hZ ho hby d
 obtain ⟨k,n,s,l⟩:=t
 obtain ⟨hsh,hch⟩:=hwf.open
 obtain ⟨ks,k0,k1,k3,k4,k5,k6⟩:=sh_kinds hsh
 rw [sg] at hh hl ⊢
 have low:∀ {w:Int},0≤w∧w≤40000000→tagW w≤3→Wp (run (Et base) 215 [.slice a Z.length Z.length,.slice c Z.length Z.length,.int .i64 w,.int .i64 by_] h) fun o=>o.1 = .tuple #[]∧Hs base V h0 o.2 D (rSl P a Z :: rW base c (spl out b []) :: R):=fun hw ht=>W.imp (by
  rintro ⟨o1,o2⟩ e
  injection e with e e'
  subst e;subst e'
  rw [spl_nil]
  exact ⟨rfl,d⟩) (shLow hw ht)
 by_cases c1:k=1
 ·simp only [if_pos c1] at hh hl ⊢
  rw [sg]
  simp only [if_pos c1]
  have:=mk_low (t:=0) (v:=n+1000000) (by omega)
  exact low this.2 this.1
 simp only [if_neg c1] at hh hl ⊢
 by_cases c2:k=2
 ·simp only [if_pos c2] at hh hl ⊢
  rw [sg]
  simp only [if_neg c1,if_pos c2]
  have:=mk_low (t:=1) (v:=(addA ats s).2) (by omega)
  exact low this.2 this.1
 simp only [if_neg c2] at hh hl ⊢
 by_cases c3:k=3
 ·simp only [if_pos c3] at hh hl ⊢
  rw [sg]
  simp only [if_neg c1,if_neg c2,if_pos c3]
  have:=mk_low (t:=2) (v:=n) (by omega)
  exact low this.2 this.1
 simp only [if_neg c3] at hh hl ⊢
 by_cases c6:k=6
 ·simp only [if_pos c6] at hh hl ⊢
  rw [sg]
  simp only [if_neg c1,if_neg c2,if_neg c3,if_pos c6]
  have hbl:=bsL_len s
  have hs40:=k6 c6
  simp only [List.length_cons] at hl
  obtain ⟨tg,vl,u1,u2⟩:=mk_tag (t:=6) (v:=(b:Int)) (by omega) (by omega)
  refine W.of (fun r hx=>Am.r215 hx) ?_
  refine W.bs (specVal_run (by omega)) (W.bI rfl (W.bs specTag_run (W.bI rfl ?_)))
  rw [tg,vl]
  refine W.ifT (by decide) ?_
  refine W.wb (shBin_loop (base:=base) (b:=b) (n:=s.size) (s:=(s.size:Int) :: bsL s) (by simp [hbl]) hs40 hh (hh.cons).1 hZ (by simp only [List.length_cons];omega) ho (s.size+1) 0 h (by omega) (by rw [List.take_zero,spl_nil];exact d)) ?_
  rintro ⟨o1,o2,h5⟩ ⟨y1,d5⟩
  simp only at y1 d5
  subst y1
  exact W.ifT rfl (W.ret ⟨rfl,d5⟩)
 simp only [if_neg c6] at hh hl ⊢
 by_cases c4:k=4
 ·simp only [if_pos c4] at hh hl ⊢
  rw [sg]
  simp only [if_neg c1,if_neg c2,if_neg c3,if_neg c6,if_pos c4]
  have hl8:=k4 c4
  obtain ⟨i1,i2⟩:=hh.cons
  obtain ⟨i2,i3⟩:=i2.app
  simp only [List.length_cons,List.length_append] at hl
  rw [sgT_len] at i3 hl
  have e1:(b:Int)+1+(l.length:Int)=((b+1+l.length:Nat):Int):=by omega
  have e2:(b:Int)+by_+1+(l.length:Int)=((b+1+l.length:Nat):Int)+by_:=by omega
  rw [e1] at i2 i3 hl
  have hqi:=sgT_ind (sg_ind f) l ((b+1+l.length:Nat):Int) (((b+1+l.length:Nat):Int)+by_) ats
  obtain ⟨tg,vl,u1,u2⟩:=mk_tag (t:=4) (v:=(b:Int)) (by omega) (by omega)
  obtain ⟨hl1,ad,rfl,g⟩:=d.rdW i1
  refine W.of (fun r hx=>Am.r215 hx) ?_
  refine W.bs (specVal_run (by omega)) (W.bI rfl (W.bs specTag_run (W.bI rfl ?_)))
  rw [tg,vl]
  refine W.ifF (by decide) (W.ifT (by decide) ?_)
  refine W.ifT ⟨by omega,by omega⟩ (W.bs rfl (W.bI (by rw [Int.toNat_natCast,Nat.mul_one];exact g) (W.ifT ⟨by omega,by omega⟩ ?_)))
  obtain ⟨ad3,h5,ea,ew,d,_⟩:=d.setW (i:=1) (j:=b) (v:=(l.length:Int)) rfl (by omega)
  subst ea
  refine W.bs rfl (W.bs (by rw [Int.toNat_natCast,Nat.mul_one];exact ew) ?_)
  rw [w64i (n:=(b:Int)+1) (by omega) (by omega)]
  refine W.wb (shTup_loop ih i1 hZ hl8 hby l (b+1) (b+1+l.length) ats _ h5 hch i2 i3 (by omega) (by omega) (by omega) (by rw [List.length_set];exact ho) d) ?_
  rintro ⟨o1,o2,h6⟩ ⟨y1,d6⟩
  simp only at y1 d6
  subst y1
  refine W.ifT rfl (W.ret ⟨rfl,?_⟩)
  rw [e2]
  have e3:spl (spl (out.set b (l.length:Int)) (b+1) (sgT (sg f) l (((b+1+l.length:Nat):Int)+by_) ats).ws) (b+1+l.length) (sgT (sg f) l (((b+1+l.length:Nat):Int)+by_) ats).seg=spl out b ((l.length:Int) :: ((sgT (sg f) l (((b+1+l.length:Nat):Int)+by_) ats).ws++(sgT (sg f) l (((b+1+l.length:Nat):Int)+by_) ats).seg)):=by
   have hsl:=sgT_len (g:=sg f) l (((b+1+l.length:Nat):Int)+by_) ats
   have e4:=spl_adj (o:=out.set b (l.length:Int)) (p:=b+1) (s:=(sgT (sg f) l (((b+1+l.length:Nat):Int)+by_) ats).ws) (t:=(sgT (sg f) l (((b+1+l.length:Nat):Int)+by_) ats).seg) (by rw [List.length_set];omega)
   rw [hsl] at e4
   rw [e4,spl_cons (by rw [List.length_append];omega)]
  rw [← e3]
  exact d6
 simp only [if_neg c4] at hh hl ⊢
 by_cases cl:l = []
 ·simp only [if_pos cl] at hh hl ⊢
  rw [sg]
  simp only [if_neg c1,if_neg c2,if_neg c3,if_neg c6,if_neg c4,if_pos cl]
  exact low (by decide) (by decide)
 simp only [if_neg cl] at hh hl ⊢
 rw [sg]
 simp only [if_neg c1,if_neg c2,if_neg c3,if_neg c6,if_neg c4,if_neg cl]
 obtain ⟨i1,i2⟩:=hh.app
 rw [lnk_len,sgT_len] at i2
 rw [List.length_append,lnk_len,sgT_len] at hl
 have e1:(b:Int)+2*(l.length:Int)=((b+2*l.length:Nat):Int):=by omega
 have e2:(b:Int)+by_+2*(l.length:Int)=((b+2*l.length:Nat):Int)+by_:=by omega
 rw [e1] at i1 i2 hl
 rw [e2]
 have hqi:=sgT_ind (sg_ind f) l ((b+2*l.length:Nat):Int) (((b+2*l.length:Nat):Int)+by_) ats
 refine W.imp ?_ (shCons_run ih hZ hby l b (b+2*l.length) ats out h cl hch i1 i2 (by omega) (by omega) ho d)
 rintro ⟨o1,o2⟩ ⟨y1,y2⟩
 refine ⟨y1,?_⟩
 have e4:=spl_adj (o:=out) (p:=b) (s:=lnk ((b:Int)+by_) (sgT (sg f) l (((b+2*l.length:Nat):Int)+by_) ats).ws) (t:=(sgT (sg f) l (((b+2*l.length:Nat):Int)+by_) ats).seg) (by rw [lnk_len,sgT_len];omega)
 rw [lnk_len,sgT_len] at e4
 rw [← e4]
 exact y2
theorem sh_run {base:Nat}:∀ f,ShR base f
 | 0=>fun t b by_ ats Z out P a c V h0 h D R hwf _ _ _ _ _ _=>by obtain ⟨d,x,_,hx⟩:=hwf;rw [lk] at hx;omega
 | f+1=>sh_succ (sh_run f)
theorem Hs.freeze {base:Nat} {V:Fp} {h0 h:AH} {D:Ds} {R:List Rs} {r:Rs} (d:Hs base V h0 h D (r :: R)):Hs base V h0 h D (⟨r.S,false,r.A⟩ :: R):=by
 refine ⟨d.ge,d.kb,d.own,d.nd,fun s hs=>?_,?_⟩
 ·rcases List.mem_cons.1 hs with rfl|hs
  ·obtain ⟨a,b,c,_,e⟩:=d.res r (.head _)
   exact ⟨a,b,c,fun h=>(nomatch h),e⟩
  ·exact d.res s (.tail _ hs)
 ·have dj:=d.dj
  rw [List.pairwise_cons] at dj ⊢
  refine ⟨fun s hs e=>?_,dj.2⟩
  simp only [Bool.false_or] at e
  exact dj.1 s hs (by rw [e];simp)
theorem Hs.asSl {base:Nat} {V:Fp} {h0 h:AH} {D:Ds} {R:List Rs} {a:Option Addr} {l:List Int} (d:Hs base V h0 h D (rW base a l :: R)):Hs base V h0 h D (rSl (blk a) a l :: R):=by
 have d:=d.freeze
 refine ⟨d.ge,d.kb,d.own,d.nd,fun s hs=>?_,?_⟩
 ·rcases List.mem_cons.1 hs with rfl|hs
  ·obtain ⟨x,_,c,m,e⟩:=d.res _ (.head _)
   exact ⟨Own.sl x,fun U y y' k hs z=>z.keep k hs,c,m,e⟩
  ·exact d.res s (.tail _ hs)
 ·have dj:=d.dj
  rw [List.pairwise_cons] at dj ⊢
  exact dj
theorem Del.last {α:Type} {x:α}:∀ (l:List α),Del (l++[x]) x l
 | []=>.here
 | y :: l=>.there (Del.last l)
theorem Hs.asW {base b:Nat} {V:Fp} {h0 h:AH} {D D':Ds} {R:List Rs} {l:List Int} (d:Hs base V h0 h D R) (u:Del D (b,3,iv .i64 l) D'):Hs base V h0 h D' (rW base (at0 b) l :: R):=by
 have d:=(d.unbox u).frontR (Del.last R)
 refine ⟨d.ge,d.kb,d.own,d.nd,fun s hs=>?_,?_⟩
 ·rcases List.mem_cons.1 hs with rfl|hs
  ·obtain ⟨x,_,c,m,e⟩:=d.res _ (.head _)
   exact ⟨x,fun U y y' k hs z=>z.keep k hs,fun i hi=>c i (blk_at0.1 hi),fun _ i hi=>m rfl i (blk_at0.1 hi),fun y hy hi=>e y hy (blk_at0.1 hi)⟩
  ·exact d.res s (.tail _ hs)
 ·have dj:=d.dj
  rw [List.pairwise_cons] at dj ⊢
  exact ⟨fun s hs e i hi=>dj.1 s hs e i (blk_at0.1 hi),dj.2⟩
theorem spl_all {o s:List Int} (h:s.length=o.length):spl o 0 s=s:=by
 unfold spl
 rw [h,List.take_zero,List.drop_of_length_le (by omega)]
 simp
theorem l6Lay_run {base f at_ sb:Nat} {V:Fp} {h0 h:AH} {p:Fp} {k n:Int} {s:ByteArray} {l:List Tm} {ta aa:Option Addr} {ats:List ByteArray} (hwf:Wf (f+1) (.mk k n s l)) (hat:at_≤99000) (hal:ats.length≤1048576) (d:Hs base V h0 h [(sb,59,[.slice aa ats.length ats.length])] [rTR p (f+1) (.mk k n s l) (termV k n s ta l.length),rSt base aa ats]) :
  Wp (run (Et base) 193 [.pointer (at0 sb),.agg (termV k n s ta l.length).toArray,.int .i64 (at_:Int)] h) fun o=>∃ aa' c,o.1 = .tuple #[.slice c (sg (f+1) (100000+(at_:Int)) ats (.mk k n s l)).seg.length (sg (f+1) (100000+(at_:Int)) ats (.mk k n s l)).seg.length,.int .i64 (sg (f+1) (100000+(at_:Int)) ats (.mk k n s l)).word,.bool (sg (f+1) (100000+(at_:Int)) ats (.mk k n s l)).ok]∧Hs base V h0 o.2 [(sb,59,[.slice aa' (sg (f+1) (100000+(at_:Int)) ats (.mk k n s l)).ats.length (sg (f+1) (100000+(at_:Int)) ats (.mk k n s l)).ats.length])] [rTR p (f+1) (.mk k n s l) (termV k n s ta l.length),rW base c (sg (f+1) (100000+(at_:Int)) ats (.mk k n s l)).seg,rSt base aa' (sg (f+1) (100000+(at_:Int)) ats (.mk k n s l)).ats]:=by
 have hnd:=hwf.need
 refine W.of (fun r hx=>Am.r193 hx) ?_
 ((refine W.nD d fun h1 d _ kh1=>?_);(refine W.nD d fun h2 d _ kh2=>?_);(refine W.nD d fun h3 d _ kh3=>?_);(with_reducible repeat first|refine W.a1 d ?_|refine W.a5 d fun hw d lw kw=>?_))
 have d:=d.asW (l:=[]) (Del.at (i:=1) rfl)
 simp only [n5,n6] at d
 have d:=d.front (Del.at (i:=2) rfl)
 have d:=d.front (Del.at (i:=1) rfl)
 simp only [n5,n6] at d
 have d:=d.frontR (Del.at (i:=1) rfl)
 simp only [n5,n6] at d
 dsimp only
 have hsw:=sg_word (f:=f+1) (t:=.mk k n s l) (b:=0) (by_:=100000+(at_:Int)) (ats:=ats) (by omega) (by omega)
 have hsi:=sg_ind (f+1) (.mk k n s l) 0 (100000+(at_:Int)) ats
 have hsl:=sg_len hwf 0 ats
 have d1:=Hs.part (D1:=[_,_]) (R1:=[_,_,_]) (R2:=[]) d
 refine W.wb (sput_run (base:=base) (f+1) _ _ _ p _ _ [] ats _ aa _ _ _ hwf (by simp only [List.length_nil];omega) hal d1) ?_
 rintro ⟨u,h4⟩ ⟨a',aa',y1,d2⟩
 simp only at y1 d2
 subst y1
 have d:=Hs.back (D1:=[_,_]) (R1:=[_,_,_]) (R2:=[]) d d2 (imP rfl rfl)
 clear d1 d2
 have epg:pt 0 (f+1) ([],ats) (.mk k n s l)=(((sg (f+1) 0 ats (.mk k n s l)).seg,(sg (f+1) 0 ats (.mk k n s l)).ats),(sg (f+1) 0 ats (.mk k n s l)).word,(sg (f+1) 0 ats (.mk k n s l)).ok):=by
  have:=pt_sg (fr:=0) (f+1) (.mk k n s l) [] ats
  simpa using this
 rw [epg] at d ⊢
 have hsh:=fun a c V h0 h D R=>sh_run (base:=base) (f+1) (.mk k n s l) 0 (100000+(at_:Int)) ats (sg (f+1) 0 ats (.mk k n s l)).seg (List.replicate (sg (f+1) 0 ats (.mk k n s l)).seg.length 0) (blk a) a c V h0 h D R hwf (fun j hj=>by rw [Nat.zero_add];exact List.getElem?_eq_getElem hj) (by rw [Int.natCast_zero];omega) (by omega) (by simp) (by omega)
 simp only [Int.natCast_zero,Int.zero_add] at hsh
 rw [Int.zero_add] at hsw
 obtain ⟨hs1,hs2,hs3⟩:=hsi
 rw [← hs1,← hs2]
 rw [← hsw.1]
 generalize (sg (f+1) (100000+(at_:Int)) ats (.mk k n s l)).seg=Q at hs3 hsh ⊢
 generalize sg (f+1) 0 ats (.mk k n s l)=q at d hsh hsw hs3 hsl ⊢
 rw [← hs3]
 ((try simp only [n1,n2,n3,n4,n5,n6] at d);(with_reducible repeat first|refine W.a1 d ?_|refine W.a2 ?_|refine W.a3 ?_))
 refine W.ifT ⟨rfl,by omega,by show ((q.seg.length:Nat):Int)*8≤_;omega,by show ((q.seg.length:Nat):Int)≤_;omega⟩ ?_
 ((refine W.nD d fun h5 d _ kh5=>?_);(with_reducible repeat refine W.a1 d ?_))
 rw [Int.toNat_natCast,rep_ivs] at d
 rw [Int.toNat_natCast]
 have d:=d.asW (l:=List.replicate q.seg.length 0) (Del.at (i:=0) rfl)
 simp only [n5,n6] at d
 have d:=(d.frontR (Del.at (i:=2) rfl)).asSl
 simp only [n5,n6] at d
 rw [w64i (n:=100000+(at_:Int)) (by omega) (by omega)]
 refine W.wb (hsh _ _ _ _ _ _ _ d) ?_
 rintro ⟨u,h6⟩ ⟨y1,d⟩
 simp only at y1 d
 subst y1
 rw [spl_all (by simp;omega)] at d
 refine W.bs rfl ?_
 dsimp only
 refine W.bs (l6Moved_run hsw.2 (by omega)) ?_
 refine W.bI rfl ?_
 have d:=((d.frontR (Del.at (i:=1) rfl)).frontR (Del.at (i:=2) rfl))
 simp only [n5,n6] at d
 have d:=((d.frontR (Del.at (i:=3) rfl)).takeR 3)
 simp only [n5,n6] at d
 have d:=((d.frontR (Del.at (i:=2) rfl)).frontR (Del.at (i:=2) rfl))
 have d:=((d.front (Del.at (i:=1) rfl)).takeD 1)
 exact W.ret ⟨aa',_,rfl,d⟩
def CopyGR (base F:Nat):Prop:=∀ (h:AH) (oa ya:Option Addr) (G:Gn),G.old.length≤1048576→G.young.length≤1048576→GnS h oa ya G→base≤h.length →
  ∃ a b h',run (Et base) F [.agg (gensV oa ya G).toArray] h=some (.agg (gensV a b G).toArray,h')∧Hs base NoB h h' [] [rW base a G.old,rW base b G.young]
theorem copyGens_run {base:Nat}:CopyGR base 103:=by
 intro h oa ya G h1 h2 x hb
 have d:=Hs.start hb
 suffices W:Wp (run (Et base) 103 [.agg (gensV oa ya G).toArray] h) fun o=>∃ a b,o.1 = .agg (gensV a b G).toArray∧Hs base NoB h o.2 [] [rW base a G.old,rW base b G.young] by
  obtain ⟨⟨o1,o2⟩,e,a,b,y1,y2⟩:=W
  simp only at y1 y2
  subst y1
  exact ⟨a,b,o2,e,y2⟩
 refine W.of (fun r hx=>Am.r103 hx) ?_
 ((refine W.nD d fun p1 d _ kp1=>?_);(refine W.nD d fun p2 d _ kp2=>?_);(with_reducible repeat refine W.a1 d ?_))
 obtain ⟨a4,h4,e4,o4,k4,f4⟩:=copyIntsO_run (base:=base) (x.1.keepN d.kb) (by omega) d.ge
 refine W.bs e4 ?_
 have d:=d.call k4 (blk a4) (fun y=>Own base 3 y a4 (iv .i64 G.old)) o4 (fun U y y' k hs x=>x.keep k hs) (fun i hi=>⟨f4 i hi,(o4.lt hi).2⟩)
 ((try simp only [n1,n2,n3,n4,n5,n6] at d);(with_reducible repeat first|refine W.a1 d ?_|refine W.a2 ?_|refine W.a6 d ?_))
 obtain ⟨a5,h5,e5,o5,k5,f5⟩:=copyIntsO_run (base:=base) (x.2.keepN d.kb) (by omega) d.ge
 refine W.bs e5 ?_
 have d:=d.call k5 (blk a5) (fun y=>Own base 3 y a5 (iv .i64 G.young)) o5 (fun U y y' k hs x=>x.keep k hs) (fun i hi=>⟨f5 i hi,(o5.lt hi).2⟩)
 ((try simp only [n1,n2,n3,n4,n5,n6] at d);(with_reducible repeat first|refine W.a1 d ?_|refine W.a2 ?_|refine W.a5 d fun hw d lw kw=>?_|refine W.a6 d ?_))
 exact W.ret ⟨a4,a5,rfl,d.takeD 0⟩
theorem l6Copy_run {base:Nat}:CopyGR base 101:=by
 intro h oa ya G h1 h2 x hb
 have d:=Hs.start hb
 suffices W:Wp (run (Et base) 101 [.agg (gensV oa ya G).toArray] h) fun o=>∃ a b,o.1 = .agg (gensV a b G).toArray∧Hs base NoB h o.2 [] [rW base a G.old,rW base b G.young] by
  obtain ⟨⟨o1,o2⟩,e,a,b,y1,y2⟩:=W
  simp only at y1 y2
  subst y1
  exact ⟨a,b,o2,e,y2⟩
 refine W.of (fun r hx=>Am.r101 hx) ?_
 ((refine W.nD d fun p1 d _ kp1=>?_);(refine W.nD d fun p2 d _ kp2=>?_);(refine W.nD d fun p3 d _ kp3=>?_);(with_reducible repeat first|refine W.a1 d ?_|refine W.a7 ?_))
 obtain ⟨a4,h4,e4,d⟩:=d.copyG (t:=3) (bytes:=8) (m:=G.old.length) (raw_ivs (x.1.keepN d.kb)) (by simp) (by omega) (by omega)
 refine W.bs e4 ?_
 ((try simp only [n1,n2,n3,n4,n5,n6] at d);(with_reducible repeat first|refine W.a2 ?_|refine W.a7 ?_);(refine W.nD d fun p5 d _ kp5=>?_);(with_reducible repeat first|refine W.a1 d ?_|refine W.a6 d ?_|refine W.a7 ?_))
 obtain ⟨a6,h6,e6,d⟩:=d.copyG (t:=3) (bytes:=8) (m:=G.young.length) (raw_ivs (x.2.keepN d.kb)) (by simp) (by omega) (by omega)
 refine W.bs e6 ?_
 ((try simp only [n1,n2,n3,n4,n5,n6] at d);(with_reducible repeat first|refine W.a1 d ?_|refine W.a2 ?_|refine W.a5 d fun hw d lw kw=>?_|refine W.a6 d ?_|refine W.a7 ?_))
 exact W.ret ⟨a4,a6,rfl,d.takeD 0⟩
def GPutO (base F f:Nat):Prop:=∀ (h:AH) (p:Nat→Prop) (t:Tm) (cs:List Value) (G:Gn) (ats:List ByteArray) (oa ya aa:Option Addr),TmR h p f t cs→(∀ b,p b→b<h.length)→GnS h oa ya G→Sl h aa (stV ats)→G.old.length≤1048576→G.young.length≤1048576→ats.length≤1048576→base≤h.length →
  ∃ a b aa' h',run (Et base) F [.agg (gensV oa ya G).toArray,.slice aa ats.length ats.length,.agg cs.toArray] h=some (.tuple #[.agg (gensV a b ⟨G.old,(putT 100000 1000 f G.young ats t).1.1,G.mark⟩).toArray,.slice aa' (putT 100000 1000 f G.young ats t).1.2.length (putT 100000 1000 f G.young ats t).1.2.length,.int .i64 (putT 100000 1000 f G.young ats t).2.1,.bool (putT 100000 1000 f G.young ats t).2.2],h')∧Hs base NoB h h' [] [rW base a G.old,rW base b (putT 100000 1000 f G.young ats t).1.1,rSt base aa' (putT 100000 1000 f G.young ats t).1.2]
end Go.Proofs.Ytkdenmdijdmnjaa.Am
