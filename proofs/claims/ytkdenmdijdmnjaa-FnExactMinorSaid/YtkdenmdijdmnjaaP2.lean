/- What the functions of this law compute, lemma by lemma, up to the law.
Conditions: none. -/
import Derived.Test.YtkdenmdijdmnjaaP1
import Derived.IntWalk
import Derived.Laws.BitsLemmas

set_option linter.unusedSimpArgs false
set_option linter.unusedVariables false
namespace Go.Proofs.Ytkdenmdijdmnjaa.Am
open Go Go.RowKit
theorem valW_le {w : Int} (h : wOk w) : valW w≤1152921504606846976:=by
 obtain ⟨_,h⟩:=h
 unfold valW
 split <;> omega
theorem rdL_end {G : Gn} {g : Int→Int→Option (Tm × Int)} {n : Nat} {w c : Int} (h : w < 0 ∨ tagW w ≠ 5) : rdL G g n w c = if w = 3 then some ([],c) else none:=by
 cases n with
 | zero=>rw [rdL]
 | succ n=>rw [rdL]; simp only [h,if_true]
theorem rdL_on {G : Gn} {g : Int→Int→Option (Tm × Int)} {n : Nat} {w c : Int} (h : ¬ w < 0) (h2 : tagW w = 5) : rdL G g (n + 1) w c = (gwd G (valW w)).bind fun x=>(g x c).bind fun t=>(gwd G (valW w + 1)).bind fun w'=>(rdL G g n w' t.2).bind fun y=>some (t.1 :: y.1,y.2):=by
 have h3 : w ≠ 3:=by intro e; subst e; exact absurd h2 (by decide)
 have h4 : ¬ (w < 0 ∨ tagW w ≠ 5):=by simp [h,h2]
 rw [rdL,if_neg h3,if_neg h4]
theorem list_loop {base gb rb f : Nat} {G : Gn} {oa ya aa : Option Addr} {ats : List ByteArray} {m : Bool} {S V : Fp} {A : AH→Prop} {h0 : AH} (hG : G.Ok) (hf : f≤6) (hA : ∀ y,A y→GrB y gb oa ya G aa ats) (ih : GetR base gb oa ya G aa ats f) : ∀ (r : Nat) (h : AH) (w : Int) (l : List Tm) (ao : Option Addr) (c : Int) (b : Bool) (S2 : Fp),wOk w→l.length + r = 21→(b = false→0≤c∧c≤100)→Hs base V h0 h [(rb,208,gtV gb aa ats.length c b)] [⟨S,m,A⟩,rTs base (f + 1) S2 l ao] →
  Wp (loopL (B218_0 base) [some (.pointer (at0 rb)),some (.int .i64 w),some (.int .i64 (6 - (f : Int))),some (.slice ao l.length l.length)] h) fun o=>∃ l' a' w' c' b' S',o.1 = 2∧o.2.1 = [some (.pointer (at0 rb)),some (.int .i64 w'),some (.slice a' l'.length l'.length)]∧l'.length≤21∧Hs base V h0 o.2.2 [(rb,208,gtV gb aa ats.length c' b')] [⟨S,m,A⟩,rTs base (f + 1) S' l' a']∧OutL b (rdL G (rdT chkI G ats f) r w c) l l' c' (b' || (w' != 3)):=by
 intro r
 have stop : ∀ (h : AH) (w : Int) (l : List Tm) (ao : Option Addr) (c : Int) (b : Bool) (S2 : Fp) (X : Option (List Tm × Int)),l.length≤21→Hs base V h0 h [(rb,208,gtV gb aa ats.length c b)] [⟨S,m,A⟩,rTs base (f + 1) S2 l ao]→(tagW w ≠ 5 ∨ w < 0 ∨ l.length = 21 ∨ b = true)→OutL b X l l c (b || (w != 3))→Wp (loopL (B218_0 base) [some (.pointer (at0 rb)),some (.int .i64 w),some (.int .i64 (6 - (f : Int))),some (.slice ao l.length l.length)] h) fun o=>∃ l' a' w' c' b' S',o.1 = 2∧o.2.1 = [some (.pointer (at0 rb)),some (.int .i64 w'),some (.slice a' l'.length l'.length)]∧l'.length≤21∧Hs base V h0 o.2.2 [(rb,208,gtV gb aa ats.length c' b')] [⟨S,m,A⟩,rTs base (f + 1) S' l' a']∧OutL b X l l' c' (b' || (w' != 3)):=by
  intro h w l ao c b S2 X hl d hc ho
  suffices w1 : Wp (B218_0 base [some (.pointer (at0 rb)),some (.int .i64 w),some (.int .i64 (6 - (f : Int))),some (.slice ao l.length l.length)] h) fun o=>o.1 = 2∧o.2.1 = [some (.pointer (at0 rb)),some (.int .i64 w),some (.slice ao l.length l.length)]∧Hs base V h0 o.2.2 [(rb,208,gtV gb aa ats.length c b)] [⟨S,m,A⟩,rTs base (f + 1) S2 l ao] by
   obtain ⟨⟨o1,o2,h'⟩,e,y1,y2,d'⟩:=w1
   simp only at y1 y2 d'
   subst y1; subst y2
   exact ⟨_,loop_off (by decide) e,l,ao,w,c,b,S2,rfl,rfl,hl,d',ho⟩
  rw [B218_0_eq]
  apply W.jb false d
  ·refine W.bs implTag_run ?_
   ((try simp only [n1,n2,n3,n4,n5,n6] at d); (with_reducible repeat first|refine W.a1 d ?_|refine W.a2 ?_|refine W.a3 ?_|refine W.bo ?_|refine W.a5 d fun hw d lw kw=>?_|refine W.a6 d ?_|refine W.a7 ?_|refine W.a8 ?_))
   refine W.ite (fun c1=>?_) (fun c1=>W.lb rfl rfl (KB.refl _ _))
   refine W.ite (fun c2=>?_) (fun c2=>W.lb rfl rfl (KB.refl _ _))
   refine W.ite (fun c3=>?_) (fun c3=>W.lb rfl rfl (KB.refl _ _))
   ((try simp only [n1,n2,n3,n4,n5,n6] at d); (with_reducible repeat first|refine W.a1 d ?_|refine W.a2 ?_|refine W.a3 ?_|refine W.bo ?_|refine W.a5 d fun hw d lw kw=>?_|refine W.a6 d ?_|refine W.a7 ?_|refine W.a8 ?_))
   refine W.lb rfl ?_ (KB.refl _ _)
   have c1 : tagW w = 5:=by simpa using c1
   have c2 : w ≥ 0:=by simpa using c2
   have c3 : (l.length : Int)≤20:=by simpa using c3
   have hb : b = true:=by
    rcases hc with h|h|h|h
    ·exact absurd c1 h
    ·omega
    ·omega
    ·exact h
   rw [hb]; rfl
  intro h1 d n1
  ((try simp only [n1,n2,n3,n4,n5,n6] at d); (with_reducible repeat first|refine W.a1 d ?_|refine W.a2 ?_|refine W.a3 ?_|refine W.bo ?_|refine W.a5 d fun hw d lw kw=>?_|refine W.a6 d ?_|refine W.a7 ?_|refine W.a8 ?_))
  exact W.ifF (by decide) (W.ret ⟨rfl,rfl,d⟩)
 induction r with
 | zero=>
  intro h w l ao c b S2 hw hl hcb d
  refine stop h w l ao c b S2 _ (by omega) d (.inr (.inr (.inl (by omega)))) ?_
  unfold OutL
  cases b with
  | true=>rfl
  | false=>
   rw [rdL]
   by_cases e : w = 3
   ·simp [e]
   ·simp [e]
 | succ r ihr=>
  intro h w l ao c b S2 hw hl hcb d
  by_cases hc : tagW w ≠ 5 ∨ w < 0 ∨ l.length = 21 ∨ b = true
  ·refine stop h w l ao c b S2 _ (by omega) d hc ?_
   unfold OutL
   cases b with
   | true=>rfl
   | false=>
    have h1 : w < 0 ∨ tagW w ≠ 5:=by
     rcases hc with h|h|h|h
     ·exact .inr h
     ·exact .inl h
     ·omega
     ·cases h
    rw [rdL_end h1]
    by_cases e : w = 3
    ·simp [e]
    ·simp [e]
  ·have h1 : tagW w = 5:=Classical.byContradiction fun h=>hc (.inl h)
   have h2 : ¬ w < 0:=fun h=>hc (.inr (.inl h))
   have h3 : ¬ l.length = 21:=fun h=>hc (.inr (.inr (.inl h)))
   have h4 : b = false:=by cases b with
    | true=>exact absurd rfl (fun h=>hc (.inr (.inr (.inr h))))
    | false=>rfl
   subst h4
   have hv:=valW_le hw
   have hv0:=valW_nn w
   suffices w1 : Wp (B218_0 base [some (.pointer (at0 rb)),some (.int .i64 w),some (.int .i64 (6 - (f : Int))),some (.slice ao l.length l.length)] h) fun o=>∃ t a' w' c' b' S',wOk w'∧o.1 = 0∧o.2.1 = [some (.pointer (at0 rb)),some (.int .i64 w'),some (.int .i64 (6 - (f : Int))),some (.slice a' (l.length + 1) (l.length + 1))]∧Hs base V h0 o.2.2 [(rb,208,gtV gb aa ats.length c' b')] [⟨S,m,A⟩,rTs base (f + 1) S' (l ++ [t]) a']∧(match (gwd G (valW w)).bind fun x=>(rdT chkI G ats f x c).bind fun t=>(gwd G (valW w + 1)).bind fun w'=>some (t,w') with
     | some y=>t = y.1.1∧c' = y.1.2∧w' = y.2∧b' = false
     | none=>b' = true) by
    obtain ⟨⟨o1,o2,h'⟩,e,t,a',w',c',b',S',wk,y1,y2,d',ho⟩:=w1
    simp only at y1 y2 d'
    subst y1; subst y2
    have el : (l ++ [t]).length = l.length + 1:=by simp
    have hcb' : b' = false→0≤c'∧c'≤100:=by
     intro eb
     cases e1 : gwd G (valW w) with
     | none=>rw [e1] at ho; simp at ho; rw [ho] at eb; cases eb
     | some x=>
      rw [e1] at ho
      cases e2 : rdT chkI G ats f x c with
      | none=>simp [e2] at ho; rw [ho] at eb; cases eb
      | some y=>
       cases e3 : gwd G (valW w + 1) with
       | none=>simp [e2,e3] at ho; rw [ho] at eb; cases eb
       | some v=>
        simp only [Option.bind_some,e2,e3] at ho
        rw [ho.2.1]
        exact rdT_le f x c y e2 (hcb rfl).1
    have q:=ihr h' w' (l ++ [t]) a' c' b' S' wk (by omega) hcb' d'
    rw [el] at q
    obtain ⟨o,eo,l2,a2,w2,c2,b2,S3,z1,z2,z3,z4,z5⟩:=q
    refine ⟨o,loop_on e eo,l2,a2,w2,c2,b2,S3,z1,z2,z3,z4,?_⟩
    rw [rdL_on h2 h1]
    simp only [OutL,Bool.false_eq_true,if_false] at z5 ⊢
    cases e1 : gwd G (valW w) with
    | none=>
     rw [e1] at ho
     simp only [Option.bind_none] at ho ⊢
     rw [if_pos ho] at z5
     exact z5
    | some x=>
     rw [e1] at ho
     simp only [Option.bind_some] at ho ⊢
     cases e2 : rdT chkI G ats f x c with
     | none=>
      rw [e2] at ho
      simp only [Option.bind_none] at ho ⊢
      rw [if_pos ho] at z5
      exact z5
     | some y=>
      rw [e2] at ho
      simp only [Option.bind_some] at ho ⊢
      cases e3 : gwd G (valW w + 1) with
      | none=>
       rw [e3] at ho
       simp only [Option.bind_none] at ho ⊢
       rw [if_pos ho] at z5
       exact z5
      | some v=>
       rw [e3] at ho
       simp only [Option.bind_some] at ho ⊢
       obtain ⟨i1,i2,i3,i4⟩:=ho
       subst i1; subst i2; subst i3; subst i4
       simp only [Bool.false_eq_true,if_false] at z5
       cases e4 : rdL G (rdT chkI G ats f) r w' y.2 with
       | none=>rw [e4] at z5; simpa using z5
       | some u=>
        rw [e4] at z5
        simp only [Option.bind_some]
        obtain ⟨i5,i6,i7⟩:=z5
        exact ⟨by rw [i5]; simp,i6,i7⟩
   rw [B218_0_eq]
   apply W.jb true d
   ·refine W.bs implTag_run ?_
    ((try simp only [n1,n2,n3,n4,n5,n6] at d); (with_reducible repeat first|refine W.a1 d ?_|refine W.a2 ?_|refine W.a3 ?_|refine W.bo ?_|refine W.a5 d fun hw d lw kw=>?_|refine W.a6 d ?_|refine W.a7 ?_|refine W.a8 ?_))
    refine W.ifT (by simp [h1]) (W.ifT (decide_eq_true (by omega)) (W.ifT (decide_eq_true (by omega)) ?_))
    ((try simp only [n1,n2,n3,n4,n5,n6] at d); (with_reducible repeat first|refine W.a1 d ?_|refine W.a2 ?_|refine W.a3 ?_|refine W.bo ?_|refine W.a5 d fun hw d lw kw=>?_|refine W.a6 d ?_|refine W.a7 ?_|refine W.a8 ?_))
    exact W.lb rfl rfl (KB.refl _ _)
   intro h1' d n1
   ((try simp only [n1,n2,n3,n4,n5,n6] at d); (with_reducible repeat first|refine W.a1 d ?_|refine W.a2 ?_|refine W.a3 ?_|refine W.bo ?_|refine W.a5 d fun hw d lw kw=>?_|refine W.a6 d ?_|refine W.a7 ?_|refine W.a8 ?_))
   refine W.ifT (by decide) (W.bs (implVal_run hw.2) ?_)
   ((try simp only [n1,n2,n3,n4,n5,n6] at d); (with_reducible repeat first|refine W.a1 d ?_|refine W.a2 ?_|refine W.a3 ?_|refine W.bo ?_|refine W.a5 d fun hw d lw kw=>?_|refine W.a6 d ?_|refine W.a7 ?_|refine W.a8 ?_))
   refine W.wb (getWord_run (base:=base) hG (by omega) hA d) ?_
   rintro ⟨u1,h2'⟩ ⟨rfl,d⟩
   simp only at d
   ((try simp only [n1,n2,n3,n4,n5,n6] at d); (with_reducible repeat first|refine W.a1 d ?_|refine W.a2 ?_|refine W.a3 ?_|refine W.bo ?_|refine W.a5 d fun hw d lw kw=>?_|refine W.a6 d ?_|refine W.a7 ?_|refine W.a8 ?_))
   rw [w64i (n:=6 - (f : Int) + 1) (by omega) (by omega),show 6 - (f : Int) + 1 = 7 - (f : Int) from by omega]
   have d1:=Hs.part (D1:=[_]) (R1:=[_]) d
   refine W.wb (ih rb _ c _ m S _ A _ _ (gwd_getD hG _) (fun _=>hcb rfl) hA d1) ?_
   rintro ⟨u,h3'⟩ ⟨t,cs',S',c',b',y1,d2,ho⟩
   simp only at y1 d2
   subst y1
   have d:=Hs.back (D1:=[_]) (R1:=[_]) d d2 (imA rfl)
   obtain ⟨k1,k2,k3,k4,k5,rfl⟩:=(d.rs (i:=1) rfl : TmG base (f + 1) S' h3' t _).form
   ((try simp only [n1,n2,n3,n4,n5,n6] at d); (with_reducible repeat first|refine W.a1 d ?_|refine W.a2 ?_|refine W.a3 ?_|refine W.bo ?_|refine W.a5 d fun hw d lw kw=>?_|refine W.a6 d ?_|refine W.a7 ?_|refine W.a8 ?_); (refine W.nD d fun h5 d _ kh5=>?_); (with_reducible repeat first|refine W.a1 d ?_|refine W.a2 ?_|refine W.a3 ?_|refine W.bo ?_|refine W.a5 d fun hw d lw kw=>?_|refine W.a6 d ?_|refine W.a7 ?_|refine W.a8 ?_))
   ((try simp only [n1,n2,n3,n4,n5,n6] at d); (with_reducible repeat first|refine W.a1 d ?_|refine W.a2 ?_|refine W.a3 ?_|refine W.bo ?_|refine W.a5 d fun hw d lw kw=>?_|refine W.a6 d ?_|refine W.a7 ?_|refine W.a8 ?_); (refine W.nD d fun h6 d _ kh6=>?_); (with_reducible repeat first|refine W.a1 d ?_|refine W.a2 ?_|refine W.a3 ?_|refine W.bo ?_|refine W.a5 d fun hw d lw kw=>?_|refine W.a6 d ?_|refine W.a7 ?_|refine W.a8 ?_))
   obtain ⟨a5,h7,S5,e5,d,_,_,_⟩:=d.app1 (i:=2) (j:=1) (bytes:=56) (TmG.kp _ _) rfl rfl (by decide) (.head _) rfl (by decide) rfl (by omega) (by omega)
   refine W.bs e5 ?_
   ((try simp only [n1,n2,n3,n4,n5,n6] at d); (with_reducible repeat first|refine W.a1 d ?_|refine W.a2 ?_|refine W.a3 ?_|refine W.bo ?_|refine W.a5 d fun hw d lw kw=>?_|refine W.a6 d ?_|refine W.a7 ?_|refine W.a8 ?_))
   have d:=((((d.tl.tl).frontR (Del.at (i:=2) rfl)).frontR (Del.at (i:=1) rfl)).takeR 2)
   rw [w64i (n:=valW w + 1) (by omega) (by omega)]
   refine W.wb (getWord_run (base:=base) hG (by omega) hA d) ?_
   rintro ⟨u3,h8⟩ ⟨rfl,d⟩
   simp only at d
   ((try simp only [n1,n2,n3,n4,n5,n6] at d); (with_reducible repeat first|refine W.a1 d ?_|refine W.a2 ?_|refine W.a3 ?_|refine W.bo ?_|refine W.a5 d fun hw d lw kw=>?_|refine W.a6 d ?_|refine W.a7 ?_|refine W.a8 ?_))
   refine W.ret ⟨t,a5,_,c',_,S5,gwd_getD hG (valW w + 1),rfl,rfl,d,?_⟩
   unfold OutT at ho
   cases e1 : gwd G (valW w) with
   | none=>rw [e1] at ho; simp at ho; simp [ho]
   | some x=>
    rw [e1] at ho
    simp only [Option.isSome_some,Bool.not_true,Bool.or_false,Bool.false_eq_true,if_false,Option.getD_some] at ho
    simp only [Option.bind_some]
    cases e2 : rdT chkI G ats f x c with
    | none=>rw [e2] at ho; simp at ho; simp [ho]
    | some y=>
     rw [e2] at ho
     obtain ⟨i1,i2,i3⟩:=ho
     simp only [Option.bind_some]
     cases e3 : gwd G (valW w + 1) with
     | none=>simp
     | some v=>simp [i1,i2,i3]
end Go.Proofs.Ytkdenmdijdmnjaa.Am
set_option linter.unusedSimpArgs false
set_option linter.unusedVariables false
namespace Go.Proofs.Ytkdenmdijdmnjaa.Am
open Go Go.RowKit
theorem list_run {base gb rb f : Nat} {G : Gn} {oa ya aa : Option Addr} {ats : List ByteArray} {w c : Int} {b m : Bool} {S V : Fp} {A : AH→Prop} {h0 h : AH} (hG : G.Ok) (hw : wOk w) (hf : f≤6) (hA : ∀ y,A y→GrB y gb oa ya G aa ats) (ih : GetR base gb oa ya G aa ats f) (hcb : b = false→0≤c∧c≤100) (d0 : Hs base V h0 h [(rb,208,gtV gb aa ats.length c b)] [⟨S,m,A⟩]) :
  Wp (run (Et base) 218 [.pointer (at0 rb),.int .i64 w,.int .i64 (6 - (f : Int))] h) fun o=>∃ l a' c' b' S',o.1 = .slice a' l.length l.length∧l.length≤21∧Hs base V h0 o.2 [(rb,208,gtV gb aa ats.length c' b')] [⟨S,m,A⟩,rTs base (f + 1) S' l a']∧OutL b (rdL G (rdT chkI G ats f) 21 w c) [] l c' b':=by
 refine W.of (fun r hx=>Am.r218 hx) ?_
 have none_row : ∀ y,RowO base 42 4 (TmG base (f + 1)) (fun _=>False) y [] none:=fun y=>RowO.nil
 have d:=d0.call (KB.refl NoB _) (fun _=>False) (fun y=>RowO base 42 4 (TmG base (f + 1)) (fun _=>False) y [] none) (none_row _) (fun U y y' k hs x=>x.keep (TmG.kp _ _) k hs) (fun _ h=>h.elim)
 refine W.wb (list_loop (base:=base) hG hf hA ih 21 h w [] none c b _ hw (by simp) hcb d) ?_
 rintro ⟨o1,o2,h1⟩ ⟨l,a',w',c',b',S',z1,z2,z3,d,z5⟩
 simp only at z1 z2 d
 subst z1; subst z2
 refine W.ifT rfl ?_
 ((try simp only [n1,n2,n3,n4,n5,n6] at d); (with_reducible repeat first|refine W.a1 d ?_|refine W.a2 ?_|refine W.a3 ?_|refine W.bo ?_|refine W.a5 d fun hw d lw kw=>?_|refine W.a6 d ?_|refine W.a7 ?_|refine W.a8 ?_))
 refine W.join ?_
 ((try simp only [n1,n2,n3,n4,n5,n6] at d); (with_reducible repeat first|refine W.a1 d ?_|refine W.a2 ?_|refine W.a3 ?_|refine W.bo ?_|refine W.a5 d fun hw d lw kw=>?_|refine W.a6 d ?_|refine W.a7 ?_|refine W.a8 ?_))
 refine W.ite (fun c=>?_) (fun c=>?_)
 ·((try simp only [n1,n2,n3,n4,n5,n6] at d); (with_reducible repeat first|refine W.a1 d ?_|refine W.a2 ?_|refine W.a3 ?_|refine W.bo ?_|refine W.a5 d fun hw d lw kw=>?_|refine W.a6 d ?_|refine W.a7 ?_|refine W.a8 ?_))
  refine W.il ?_
  ((try simp only [n1,n2,n3,n4,n5,n6] at d); (with_reducible repeat first|refine W.a1 d ?_|refine W.a2 ?_|refine W.a3 ?_|refine W.bo ?_|refine W.a5 d fun hw d lw kw=>?_|refine W.a6 d ?_|refine W.a7 ?_|refine W.a8 ?_))
  rw [c] at z5
  exact W.ret ⟨l,a',_,true,S',rfl,z3,d,z5⟩
 ·have c : b' = false:=by simpa using c
  subst c
  refine W.bs implMk_run ?_
  ((try simp only [n1,n2,n3,n4,n5,n6] at d); (with_reducible repeat first|refine W.a1 d ?_|refine W.a2 ?_|refine W.a3 ?_|refine W.bo ?_|refine W.a5 d fun hw d lw kw=>?_|refine W.a6 d ?_|refine W.a7 ?_|refine W.a8 ?_))
  refine W.il ?_
  ((try simp only [n1,n2,n3,n4,n5,n6] at d); (with_reducible repeat first|refine W.a1 d ?_|refine W.a2 ?_|refine W.a3 ?_|refine W.bo ?_|refine W.a5 d fun hw d lw kw=>?_|refine W.a6 d ?_|refine W.a7 ?_|refine W.a8 ?_))
  refine W.ret ⟨l,a',_,_,S',rfl,z3,d,?_⟩
  rw [show mkW 3 0 = 3 from rfl]
  simpa using z5
end Go.Proofs.Ytkdenmdijdmnjaa.Am
set_option linter.unusedSimpArgs false
set_option linter.unusedVariables false
namespace Go.Proofs.Ytkdenmdijdmnjaa.Am
open Go Go.RowKit
def OutB (b : Bool) (x : Option (List Int)) (l l' : List Int) (b' : Bool) : Prop:=if b = true then b' = true else match x with
 | some y=>l' = l ++ y∧b' = false
 | none=>b' = true
abbrev rBs (base : Nat) (S : Fp) (l : List Int) (a : Option Addr) : Rs:=⟨S,true,fun y=>Own base 5 y a (iv .u8 l)⟩
theorem bin_loop {base gb rb : Nat} {G : Gn} {oa ya aa : Option Addr} {ats : List ByteArray} {p c : Int} {n : Nat} {m : Bool} {S V : Fp} {A : AH→Prop} {h0 : AH} (hG : G.Ok) (hp : 0≤p∧p≤9223372036854700000) (hn : n≤40) (hA : ∀ y,A y→GrB y gb oa ya G aa ats) : ∀ (r : Nat) (h : AH) (l : List Int) (ao : Option Addr) (b : Bool) (S2 : Fp),l.length + r = n→(∀ x,blk ao x→S2 x)→Hs base V h0 h [(rb,208,gtV gb aa ats.length c b)] [⟨S,m,A⟩,rBs base S2 l ao] →
  Wp (loopL (B219_0 base) [some (.pointer (at0 rb)),some (.int .i64 p),some (.int .i64 (n : Int)),some (.slice ao l.length l.length),some (.int .i64 ((l.length : Int) + 1))] h) fun o=>∃ l' a' b' S',o.1 = 2∧o.2.1 = [some (.slice a' l'.length l'.length)]∧l'.length≤n∧Hs base V h0 o.2.2 [(rb,208,gtV gb aa ats.length c b')] [⟨S,m,A⟩,rBs base S' l' a']∧OutB b (rdB G r (p + 1 + l.length)) l l' b':=by
 intro r
 induction r with
 | zero=>
  intro h l ao b S2 hl hS d
  suffices w : Wp (B219_0 base [some (.pointer (at0 rb)),some (.int .i64 p),some (.int .i64 (n : Int)),some (.slice ao l.length l.length),some (.int .i64 ((l.length : Int) + 1))] h) fun o=>o = (2,[some (.slice ao l.length l.length)],h) by
   obtain ⟨o,e,rfl⟩:=w
   refine ⟨_,loop_off (by decide) e,l,ao,b,S2,rfl,rfl,by omega,d,?_⟩
   unfold OutB
   split
   ·rename_i hb; exact hb
   ·rename_i hb; exact ⟨by simp [rdB],by simpa using hb⟩
  rw [B219_0_eq]
  exact W.ifF (by simp; omega) (W.ret rfl)
 | succ r ihr=>
  intro h l ao b S2 hl hS d
  suffices w : Wp (B219_0 base [some (.pointer (at0 rb)),some (.int .i64 p),some (.int .i64 (n : Int)),some (.slice ao l.length l.length),some (.int .i64 ((l.length : Int) + 1))] h) fun o=>∃ x a' b' S',o.1 = 0∧o.2.1 = [some (.pointer (at0 rb)),some (.int .i64 p),some (.int .i64 (n : Int)),some (.slice a' (l.length + 1) (l.length + 1)),some (.int .i64 ((l.length : Int) + 1 + 1))]∧(∀ x,blk a' x→S' x)∧Hs base V h0 o.2.2 [(rb,208,gtV gb aa ats.length c b')] [⟨S,m,A⟩,rBs base S' (l ++ [x]) a']∧(if b = true then b' = true else match gwd G (p + 1 + l.length) with
    | some w=>(if inB w 0 255 = true then x = w∧b' = false else b' = true)
    | none=>b' = true) by
   obtain ⟨⟨o1,o2,h'⟩,e,x,a',b',S',y1,y2,hS',d',ho⟩:=w
   simp only at y1 y2 d'
   subst y1; subst y2
   have el : (l ++ [x]).length = l.length + 1:=by simp
   have q:=ihr h' (l ++ [x]) a' b' S' (by omega) hS' d'
   rw [el] at q
   obtain ⟨o,eo,l2,a2,b2,S3,z1,z2,z3,z4,z5⟩:=q
   refine ⟨o,loop_on e eo,l2,a2,b2,S3,z1,z2,z3,z4,?_⟩
   unfold OutB at z5 ⊢
   cases b with
   | true=>
    rw [if_pos rfl] at ho ⊢
    rw [if_pos ho] at z5
    exact z5
   | false=>
    simp only [Bool.false_eq_true,if_false,rdB] at ho ⊢
    cases e1 : gwd G (p + 1 + l.length) with
    | none=>
     rw [e1] at ho
     simp only [Option.bind_none] at ho ⊢
     rw [if_pos ho] at z5
     exact z5
    | some w=>
     rw [e1] at ho
     simp only [Option.bind_some] at ho ⊢
     by_cases e2 : inB w 0 255 = true
     ·rw [if_pos e2] at ho ⊢
      obtain ⟨h1,h3⟩:=ho
      subst h1; subst h3
      simp only [Bool.false_eq_true,if_false] at z5
      rw [show p + 1 + ((l.length + 1 : Nat) : Int) = p + 1 + (l.length : Int) + 1 from by omega] at z5
      cases e3 : rdB G r (p + 1 + (l.length : Int) + 1) with
      | none=>rw [e3] at z5; simpa using z5
      | some u=>
       rw [e3] at z5
       simp only [Option.bind_some]
       obtain ⟨h4,h6⟩:=z5
       exact ⟨by rw [h4]; simp,h6⟩
     ·rw [if_neg e2] at ho ⊢
      rw [if_pos ho] at z5
      exact z5
  rw [B219_0_eq]
  refine W.ifT (decide_eq_true (by omega)) ?_
  rw [w64i (n:=p + ((l.length : Int) + 1)) (by omega) (by omega)]
  refine W.wb (getWord_run (base:=base) hG (by omega) hA d) ?_
  rintro ⟨u1,h1⟩ ⟨rfl,d⟩
  simp only at d
  ((try simp only [n1,n2,n3,n4,n5,n6] at d); (with_reducible repeat first|refine W.a1 d ?_|refine W.a2 ?_|refine W.a3 ?_|refine W.bo ?_|refine W.a5 d fun hw d lw kw=>?_|refine W.a6 d ?_|refine W.a7 ?_|refine W.a8 ?_))
  rw [show p + ((l.length : Int) + 1) = p + 1 + (l.length : Int) from by omega] at d ⊢
  refine W.join ?_
  ((try simp only [n1,n2,n3,n4,n5,n6] at d); (with_reducible repeat first|refine W.a1 d ?_|refine W.a2 ?_|refine W.a3 ?_|refine W.bo ?_|refine W.a5 d fun hw d lw kw=>?_|refine W.a6 d ?_|refine W.a7 ?_|refine W.a8 ?_))
  generalize hb1 : (b || !(gwd G (p + 1 + (l.length : Int))).isSome) = b1 at d
  refine W.ite (fun c1=>?_) (fun c1=>?_)
  ·((try simp only [n1,n2,n3,n4,n5,n6] at d); (with_reducible repeat first|refine W.a1 d ?_|refine W.a2 ?_|refine W.a3 ?_|refine W.bo ?_|refine W.a5 d fun hw d lw kw=>?_|refine W.a6 d ?_|refine W.a7 ?_|refine W.a8 ?_))
   refine W.il ?_
   ((try simp only [n1,n2,n3,n4,n5,n6] at d); (with_reducible repeat first|refine W.a1 d ?_|refine W.a2 ?_|refine W.a3 ?_|refine W.bo ?_|refine W.a5 d fun hw d lw kw=>?_|refine W.a6 d ?_|refine W.a7 ?_|refine W.a8 ?_); (refine W.nD d fun h3 d _ kh3=>?_); (with_reducible repeat first|refine W.a1 d ?_|refine W.a2 ?_|refine W.a3 ?_|refine W.bo ?_|refine W.a5 d fun hw d lw kw=>?_|refine W.a6 d ?_|refine W.a7 ?_|refine W.a8 ?_))
   obtain ⟨a5,h5,e5,d,q5,k5,_⟩:=d.app1O (w:=1) (i:=1) (n:=l.length) (bytes:=1) rfl hS (.head _) rfl (by decide) (by simp) rfl (by omega) (by omega)
   refine W.bs e5 ?_
   ((try simp only [n1,n2,n3,n4,n5,n6] at d); (with_reducible repeat first|refine W.a1 d ?_|refine W.a2 ?_|refine W.a3 ?_|refine W.bo ?_|refine W.a5 d fun hw d lw kw=>?_|refine W.a6 d ?_|refine W.a7 ?_|refine W.a8 ?_))
   rw [w64i (n:=(l.length : Int) + 1 + 1) (by omega) (by omega)]
   have d:=d.tl
   rw [show iv .u8 l ++ [Value.int .u8 (IntKind.wrap .u8 ((gwd G (p + 1 + (l.length : Int))).getD 0))] = iv .u8 (l ++ [IntKind.wrap .u8 ((gwd G (p + 1 + (l.length : Int))).getD 0)]) from by rw [← iv_append]; rfl] at d
   refine W.ret ⟨_,a5,_,_,rfl,rfl,fun x hx=>hx,d,?_⟩
   cases b with
   | true=>rfl
   | false=>
    simp only [Bool.false_eq_true,if_false]
    cases e : gwd G (p + 1 + (l.length : Int)) with
    | none=>simp
    | some w=>
     rw [e] at hb1
     have h9 : b1 = false:=by rw [← hb1]; rfl
     rw [h9] at c1; cases c1
  ·have c1 : b1 = false:=by simpa using c1
   refine W.bs in_run ?_
   ((try simp only [n1,n2,n3,n4,n5,n6] at d); (with_reducible repeat first|refine W.a1 d ?_|refine W.a2 ?_|refine W.a3 ?_|refine W.bo ?_|refine W.a5 d fun hw d lw kw=>?_|refine W.a6 d ?_|refine W.a7 ?_|refine W.a8 ?_))
   refine W.il ?_
   ((try simp only [n1,n2,n3,n4,n5,n6] at d); (with_reducible repeat first|refine W.a1 d ?_|refine W.a2 ?_|refine W.a3 ?_|refine W.bo ?_|refine W.a5 d fun hw d lw kw=>?_|refine W.a6 d ?_|refine W.a7 ?_|refine W.a8 ?_); (refine W.nD d fun h3 d _ kh3=>?_); (with_reducible repeat first|refine W.a1 d ?_|refine W.a2 ?_|refine W.a3 ?_|refine W.bo ?_|refine W.a5 d fun hw d lw kw=>?_|refine W.a6 d ?_|refine W.a7 ?_|refine W.a8 ?_))
   obtain ⟨a5,h5,e5,d,q5,k5,_⟩:=d.app1O (w:=1) (i:=1) (n:=l.length) (bytes:=1) rfl hS (.head _) rfl (by decide) (by simp) rfl (by omega) (by omega)
   refine W.bs e5 ?_
   ((try simp only [n1,n2,n3,n4,n5,n6] at d); (with_reducible repeat first|refine W.a1 d ?_|refine W.a2 ?_|refine W.a3 ?_|refine W.bo ?_|refine W.a5 d fun hw d lw kw=>?_|refine W.a6 d ?_|refine W.a7 ?_|refine W.a8 ?_))
   rw [w64i (n:=(l.length : Int) + 1 + 1) (by omega) (by omega)]
   have d:=d.tl
   rw [show iv .u8 l ++ [Value.int .u8 (IntKind.wrap .u8 ((gwd G (p + 1 + (l.length : Int))).getD 0))] = iv .u8 (l ++ [IntKind.wrap .u8 ((gwd G (p + 1 + (l.length : Int))).getD 0)]) from by rw [← iv_append]; rfl] at d
   refine W.ret ⟨_,a5,_,_,rfl,rfl,fun x hx=>hx,d,?_⟩
   rw [c1] at hb1
   cases b with
   | true=>simp at hb1
   | false=>
    simp only [Bool.false_eq_true,if_false]
    cases e : gwd G (p + 1 + (l.length : Int)) with
    | none=>rw [e] at hb1; simp at hb1
    | some w=>
     simp only [Option.getD_some]
     by_cases c2 : inB w 0 255 = true
     ·rw [if_pos c2,c2]
      have : 0≤w∧w≤255:=by unfold inB at c2; simpa using c2
      exact ⟨IntWalk.u8_in w ⟨this.1,this.2⟩,rfl⟩
     ·rw [if_neg c2]
      have c2 : inB w 0 255 = false:=by simpa using c2
      rw [c2]; rfl
end Go.Proofs.Ytkdenmdijdmnjaa.Am
set_option linter.unusedSimpArgs false
set_option linter.unusedVariables false
namespace Go.Proofs.Ytkdenmdijdmnjaa.Am
open Go Go.RowKit
end Go.Proofs.Ytkdenmdijdmnjaa.Am
set_option linter.unusedSimpArgs false
set_option linter.unusedVariables false
namespace Go.Proofs.Ytkdenmdijdmnjaa.Am
open Go Go.RowKit
end Go.Proofs.Ytkdenmdijdmnjaa.Am
set_option linter.unusedSimpArgs false
set_option linter.unusedVariables false
namespace Go.Proofs.Ytkdenmdijdmnjaa.Am
open Go Go.RowKit
theorem p0 : (128 : Int) ^ 0 = 1:=by decide
theorem p1 : (128 : Int) ^ 1 = 128:=by decide
theorem p2 : (128 : Int) ^ 2 = 16384:=by decide
theorem p3 : (128 : Int) ^ 3 = 2097152:=by decide
end Go.Proofs.Ytkdenmdijdmnjaa.Am
set_option linter.unusedSimpArgs false
set_option linter.unusedVariables false
namespace Go.Proofs.Ytkdenmdijdmnjaa.Am
open Go Go.RowKit
theorem bstr_go (ns : List Int) : ∀ r : ByteArray,(ns.foldl (fun r n=>r.push (UInt8.ofNat n.toNat)) r).data.toList = r.data.toList ++ ns.map fun n=>UInt8.ofNat n.toNat:=by
 induction ns with
 | nil=>intro r; simp
 | cons n ns ih=>
  intro r
  rw [List.foldl_cons,ih]
  simp [ByteArray.push]
theorem bstr_data (ns : List Int) : (bstr ns).data.toList = ns.map fun n=>UInt8.ofNat n.toNat:=by
 unfold bstr
 rw [bstr_go]
 rfl
theorem bstr_size (ns : List Int) : (bstr ns).size = ns.length:=by
 have:=congrArg List.length (bstr_data ns)
 simpa using this
end Go.Proofs.Ytkdenmdijdmnjaa.Am
set_option linter.unusedSimpArgs false
set_option linter.unusedVariables false
namespace Go.Proofs.Ytkdenmdijdmnjaa.Am
open Go Go.RowKit
theorem bin_run {base gb rb : Nat} {G : Gn} {oa ya aa : Option Addr} {ats : List ByteArray} {p c : Int} {b m : Bool} {S V : Fp} {A : AH→Prop} {h0 h : AH} (hG : G.Ok) (hp : 0≤p∧p≤9223372036854700000) (hA : ∀ y,A y→GrB y gb oa ya G aa ats) (d0 : Hs base V h0 h [(rb,208,gtV gb aa ats.length c b)] [⟨S,m,A⟩]) :
  Wp (run (Et base) 219 [.pointer (at0 rb),.int .i64 p] h) fun o=>∃ s b',o.1 = .string s∧s.size≤40∧Hs base V h0 o.2 [(rb,208,gtV gb aa ats.length c b')] [⟨S,m,A⟩]∧(if b = true then b' = true else match (gwd G p).bind fun n=>if inB n 0 40 = true then rdB G n.toNat (p + 1) else none with
   | some y=>s = bstr y∧b' = false
   | none=>b' = true):=by
 refine W.of (fun r hx=>Am.r219 hx) ?_
 refine W.wb (getWord_run (base:=base) hG (by omega) hA d0) ?_
 rintro ⟨u1,h1⟩ ⟨rfl,d⟩
 simp only at d
 ((try simp only [n1,n2,n3,n4,n5,n6] at d); (with_reducible repeat first|refine W.a1 d ?_|refine W.a2 ?_|refine W.a3 ?_|refine W.bo ?_|refine W.a5 d fun hw d lw kw=>?_|refine W.a6 d ?_|refine W.a7 ?_|refine W.a8 ?_))
 generalize hb1 : (b || !(gwd G p).isSome) = b1 at d
 apply W.jb (b1 || !inB ((gwd G p).getD 0) 0 40) d
 ·((try simp only [n1,n2,n3,n4,n5,n6] at d); (with_reducible repeat first|refine W.a1 d ?_|refine W.a2 ?_|refine W.a3 ?_|refine W.bo ?_|refine W.a5 d fun hw d lw kw=>?_|refine W.a6 d ?_|refine W.a7 ?_|refine W.a8 ?_))
  refine W.ite (fun c=>?_) (fun c=>?_)
  ·rw [c]
   exact W.lb rfl rfl (KB.refl _ _)
  ·have c : b1 = false:=by simpa using c
   rw [c]
   refine W.bs in_run ?_
   ((try simp only [n1,n2,n3,n4,n5,n6] at d); (with_reducible repeat first|refine W.a1 d ?_|refine W.a2 ?_|refine W.a3 ?_|refine W.bo ?_|refine W.a5 d fun hw d lw kw=>?_|refine W.a6 d ?_|refine W.a7 ?_|refine W.a8 ?_))
   exact W.lb rfl rfl (KB.refl _ _)
 intro h2 d n2
 ((try simp only [n1,n2,n3,n4,n5,n6] at d); (with_reducible repeat first|refine W.a1 d ?_|refine W.a2 ?_|refine W.a3 ?_|refine W.bo ?_|refine W.a5 d fun hw d lw kw=>?_|refine W.a6 d ?_|refine W.a7 ?_|refine W.a8 ?_))
 refine W.ite (fun c=>?_) (fun c1=>?_)
 ·((try simp only [n1,n2,n3,n4,n5,n6] at d); (with_reducible repeat first|refine W.a1 d ?_|refine W.a2 ?_|refine W.a3 ?_|refine W.bo ?_|refine W.a5 d fun hw d lw kw=>?_|refine W.a6 d ?_|refine W.a7 ?_|refine W.a8 ?_))
  refine W.ret ⟨_,true,rfl,by decide,d,?_⟩
  cases b with
  | true=>rfl
  | false=>
   simp only [Bool.false_eq_true,if_false]
   cases e : gwd G p with
   | none=>simp
   | some n=>
    rw [e] at hb1 c
    simp only [Option.isSome_some,Bool.not_true,Bool.or_false] at hb1
    subst hb1
    simp only [Option.getD_some,Bool.false_or] at c
    have c : inB n 0 40 = false:=by simpa using c
    simp [c]
 ·have c2 : b1 = false∧inB ((gwd G p).getD 0) 0 40 = true:=by simpa using c1
  obtain ⟨c2,c3⟩:=c2
  rw [c2] at hb1 d
  have hb : b = false:=by
   cases b with
   | true=>simp at hb1
   | false=>rfl
  subst hb
  cases e : gwd G p with
  | none=>rw [e] at hb1; simp at hb1
  | some n=>
   rw [e] at c3
   simp only [Option.getD_some] at c3 ⊢
   have hn : 0≤n∧n≤40:=by unfold inB at c3; simpa using c3
   have d:=d.call (KB.refl NoB _) (fun _=>False) (fun y=>Own base 5 y none (iv .u8 [])) (.inl ⟨rfl,rfl⟩) (fun U y y' k hs x=>Own.keep x k fun b hb=>by obtain ⟨_,e,_⟩:=hb; cases e) (fun _ h=>h.elim)
   have w:=bin_loop (base:=base) (c:=c) (n:=n.toNat) hG hp (by omega) hA n.toNat h2 [] none false _ (by simp) (fun x hx=>by obtain ⟨_,e,_⟩:=hx; cases e) d
   rw [show ((n.toNat : Nat) : Int) = n from by omega] at w
   refine W.wb w ?_
   rintro ⟨o1,o2,h3⟩ ⟨l',a',b',S',z1,z2,z3,z4,z5⟩
   simp only at z1 z2 z4
   subst z1; subst z2
   refine W.ifT rfl ?_
   ((try simp only [n1,n2,n3,n4,n5,n6] at d); (with_reducible repeat first|refine W.a1 d ?_|refine W.a2 ?_|refine W.a3 ?_|refine W.bo ?_|refine W.a5 d fun hw d lw kw=>?_|refine W.a6 d ?_|refine W.a7 ?_|refine W.a8 ?_))
   have hr : (rawAt h3 a' l'.length).bind u8s = some l':=raw_iv (Own.sl (z4.rs (i:=1) rfl))
   refine W.bs hr ?_
   refine W.ret ⟨_,b',rfl,?_,z4.takeR 1,?_⟩
   ·rw [bstr_size]; omega
   ·simp only [Option.bind_some,c3,if_true]
    unfold OutB at z5
    simp only [Bool.false_eq_true,if_false] at z5 ⊢
    cases e5 : rdB G n.toNat (p + 1) with
    | none=>simp only [List.length_nil,Int.natCast_zero,Int.add_zero] at z5; rw [e5] at z5; simpa using z5
    | some u=>
     simp only [List.length_nil,Int.natCast_zero,Int.add_zero] at z5
     rw [e5] at z5
     obtain ⟨h4,h6⟩:=z5
     exact ⟨by rw [h4]; rfl,h6⟩
end Go.Proofs.Ytkdenmdijdmnjaa.Am
set_option linter.unusedSimpArgs false
set_option linter.unusedVariables false
namespace Go.Proofs.Ytkdenmdijdmnjaa.Am
open Go Go.RowKit
theorem get_zero {base gb : Nat} {oa ya : Option Addr} {G : Gn} {aa : Option Addr} {ats : List ByteArray} : GetR base gb oa ya G aa ats 0:=by
 intro rb w c b m S V A h0 h hwk hcb hA d
 refine W.of (fun r hx=>Am.r196 hx) ?_
 ((try simp only [n1,n2,n3,n4,n5,n6] at d); (with_reducible repeat first|refine W.a1 d ?_|refine W.a2 ?_|refine W.a3 ?_|refine W.bo ?_|refine W.a5 d fun hw d lw kw=>?_|refine W.a6 d ?_|refine W.a7 ?_|refine W.a8 ?_); (refine W.nD d fun h1 d _ kh1=>?_); (with_reducible repeat first|refine W.a1 d ?_|refine W.a2 ?_|refine W.a3 ?_|refine W.bo ?_|refine W.a5 d fun hw d lw kw=>?_|refine W.a6 d ?_|refine W.a7 ?_|refine W.a8 ?_))
 refine W.bs (implVal_run hwk.2) ?_
 ((try simp only [n1,n2,n3,n4,n5,n6] at d); (with_reducible repeat first|refine W.a1 d ?_|refine W.a2 ?_|refine W.a3 ?_|refine W.bo ?_|refine W.a5 d fun hw d lw kw=>?_|refine W.a6 d ?_|refine W.a7 ?_|refine W.a8 ?_))
 apply W.jb true d
 ·((try simp only [n1,n2,n3,n4,n5,n6] at d); (with_reducible repeat first|refine W.a1 d ?_|refine W.a2 ?_|refine W.a3 ?_|refine W.bo ?_|refine W.a5 d fun hw d lw kw=>?_|refine W.a6 d ?_|refine W.a7 ?_|refine W.a8 ?_))
  refine W.ite (fun c1=>W.lb rfl rfl (KB.refl _ _)) (fun c1=>?_)
  refine W.ite (fun c2=>W.lb rfl rfl (KB.refl _ _)) (fun c2=>?_)
  refine W.ite (fun c3=>W.lb rfl rfl (KB.refl _ _)) (fun c3=>?_)
  exact W.ifT (by decide) (W.lb rfl rfl (KB.refl _ _))
 intro h2 d n2
 ((try simp only [n1,n2,n3,n4,n5,n6] at d); (with_reducible repeat first|refine W.a1 d ?_|refine W.a2 ?_|refine W.a3 ?_|refine W.bo ?_|refine W.a5 d fun hw d lw kw=>?_|refine W.a6 d ?_|refine W.a7 ?_|refine W.a8 ?_))
 refine W.ifT (by decide) ?_
 ((try simp only [n1,n2,n3,n4,n5,n6] at d); (with_reducible repeat first|refine W.a1 d ?_|refine W.a2 ?_|refine W.a3 ?_|refine W.bo ?_|refine W.a5 d fun hw d lw kw=>?_|refine W.a6 d ?_|refine W.a7 ?_|refine W.a8 ?_))
 have d:=(d.tl).call (KB.refl NoB _) (fun _=>False) (fun y=>TmG base (0 + 1) (fun _=>False) y tmZ (termV 0 0 ⟨#[]⟩ none 0)) tmZ_G (fun U y y' k hs x=>TmG.kp _ _ _ U y y' _ _ k hs x) (fun _ h=>h.elim)
 refine W.ret ⟨tmZ,termV 0 0 ⟨#[]⟩ none 0,_,_,true,rfl,d,?_⟩
 unfold OutT rdT
 cases b <;> rfl
theorem rdT_big {G : Gn} {ats : List ByteArray} (hG : G.Ok) (ha : ats.length≤1048576) {f : Nat} {w c : Int} (hv : valW w > 4000000) : rdT chkI G ats (f + 1) w c = none:=by
 have hg : ∀ q : Int,q > 4000000→gwd G q = none:=fun q hq=>by
  cases e : gwd G q with
  | none=>rfl
  | some n=>have:=(gwd_ok hG e).2; omega
 rw [rdT]
 split
 ·rfl
 rename_i h1
 have h1 : ¬ w < 0:=by omega
 have ev : valW w = w / 8:=by unfold valW; rw [if_neg h1]
 have et : tagW w = w % 8:=by unfold tagW; rw [if_neg h1]
 rw [hg _ hv]
 have e1 : ats[(valW w).toNat]? = none:=List.getElem?_eq_none_iff.2 (by omega)
 rw [e1]
 have e2 : w ≠ 3:=by omega
 have e3 : rdL G (rdT chkI G ats f) 20 w (c + 1) = none:=by
  rw [rdL,if_neg e2]
  split
  ·rfl
  ·rw [hg _ hv]; rfl
 rw [e3,if_neg (show ¬ valW w≤2000000 by omega)]
 have e4 : shB 3 (valW w) ⟨#[]⟩ 0 = false:=by
  unfold shB inB
  have : ¬ valW w≤99999:=by omega
  simp [this]
 simp only [Option.bind_none]
 repeat' split
 all_goals first|rfl|skip
 all_goals simp [chkI,e4]
end Go.Proofs.Ytkdenmdijdmnjaa.Am
set_option linter.unusedSimpArgs false
set_option linter.unusedVariables false
namespace Go.Proofs.Ytkdenmdijdmnjaa.Am
open Go Go.RowKit
def core (G : Gn) (ats : List ByteArray) (f : Nat) (w c : Int) : Option (Tm × Int):=
 if tagW w = 0 then (if valW w≤2000000 then some (Tm.mk 1 (valW w - 1000000) ⟨#[]⟩ [],c + 1) else none)
 else if tagW w = 1 then ((ats[(valW w).toNat]?).bind fun s=>some (Tm.mk 2 0 s [],c + 1))
 else if tagW w = 2 then some (Tm.mk 3 (valW w) ⟨#[]⟩ [],c + 1)
 else if tagW w = 4 then ((gwd G (valW w)).bind fun n=>if inB n 0 8 = true then (rdS G (rdT chkI G ats f) n.toNat (valW w + 1) (c + 1)).bind fun y=>some (Tm.mk 4 0 ⟨#[]⟩ y.1,y.2) else none)
 else if tagW w = 6 then ((gwd G (valW w)).bind fun n=>if inB n 0 40 = true then (rdB G n.toNat (valW w + 1)).bind fun y=>some (Tm.mk 6 0 (bstr y) [],c + 1) else none)
 else if tagW w = 7 then none
 else (rdL G (rdT chkI G ats f) 20 w (c + 1)).bind fun y=>some (Tm.mk 5 0 ⟨#[]⟩ y.1,y.2)
theorem rdT_core {G : Gn} {ats : List ByteArray} {f : Nat} {w c : Int} (h1 : ¬ w < 0) (h2 : c < 100) : rdT chkI G ats (f + 1) w c = (core G ats f w c).bind fun y=>if chkI y.1 = true then some y else none:=by
 rw [rdT,if_neg (by omega)]; rfl
def badG (b : Bool) (w c : Int) : Bool:=if b = true then true else if decide (w < 0) = true then true else if decide (valW w > 4000000) = true then true else decide (IntKind.wrap .i64 (c + 1) > 100)
def Half (base gb rb zb tb f : Nat) (G : Gn) (aa : Option Addr) (ats : List ByteArray) (w c : Int) (m : Bool) (S V : Fp) (A : AH→Prop) (h0 : AH) (q : Slots × AH) : Prop:=
 q.1 = [some (.pointer (at0 rb)),some (.pointer (at0 zb)),some (.pointer (at0 tb))]∧∃ k n s l a c' b' S',s.size≤maxLen∧l.length≤maxLen∧Hs base V h0 q.2 [(rb,208,gtV gb aa ats.length c' b'),(tb,42,termV k n s a (List.length l)),(zb,42,termV 0 0 ⟨#[]⟩ none 0)] [⟨S,m,A⟩,rTs base (f + 1) S' l a] ∧
  (match core G ats f w c with
  | some y=>(Tm.mk k n s l = y.1∧c' = y.2∧b' = false)
  | none=>b' = true ∨ shB k n s l.length = false)
theorem Hs.takeD {base : Nat} {W : Fp} {h0 h : AH} {D : Ds} {R : List Rs} (d : Hs base W h0 h D R) (n : Nat) : Hs base W h0 h (D.take n) R:=
 ⟨d.ge,d.kb,fun x hx=>d.own x (List.mem_of_mem_take hx),by rw [List.map_take]; exact d.nd.sublist (List.take_sublist _ _),fun r hr=>by
  obtain ⟨r1,r2,r3,r4,r5⟩:=d.res r hr
  exact ⟨r1,r2,r3,r4,fun x hx=>r5 x (List.mem_of_mem_take hx)⟩,d.dj⟩
theorem Hs.ty1 {base b t : Nat} {W : Fp} {h0 h : AH} {D : Ds} {R : List Rs} {cs : List Value} (d : Hs base W h0 h D R) (m : (b,t,cs) ∈ D) : (hget h b).map (·.ty) = some t:=by
 rcases d.ol m with ⟨e,_⟩|⟨ad,k,e1,_,e2,e3,_⟩
 ·cases e
 ·injection e1 with e1
  subst e1
  rw [e2]
  simp [e3]
theorem Hs.gR {base b t : Nat} {W W1 : Fp} {h0 h h01 h1 : AH} {D D1 : Ds} {R R1 : List Rs} {cs cs1 : List Value} {ad : Addr} {v : Value} (d1 : Hs base W1 h01 h1 D1 R1) (m1 : (b,t,cs1) ∈ D1) (d : Hs base W h0 h D R) (m : (b,t,cs) ∈ D) (k : KB (· = b) h1 h) (e1 : Am.cell h1 ad.block ad.off = some v) (e : Am.cell h ad.block ad.off = some v) : sameA h1 h (some ad) 1:=by
 intro a' ea
 injection ea with ea
 subst ea
 refine ⟨fun j hj=>?_,?_⟩
 ·have : j = 0:=by omega
  subst this
  rw [Nat.add_zero,e1,e]
 ·by_cases hb : ad.block = b
  ·rw [hb,d1.ty1 m1,d.ty1 m]
  ·have hlt : ad.block < h1.length:=by
    by_cases hc : ad.block < h1.length
    ·exact hc
    ·have : Am.cell h1 ad.block ad.off = none:=by
      unfold Am.cell hget
      rw [List.getElem?_eq_none_iff.2 (by omega)]
      rfl
     rw [this] at e1; cases e1
   rw [k.2 _ hlt hb]
theorem get_succ {base gb f : Nat} {oa ya : Option Addr} {G : Gn} {aa : Option Addr} {ats : List ByteArray} (hG : G.Ok) (ha : ats.length≤1048576) (hs : ∀ s ∈ ats,s.size≤maxLen) (hf : f≤5) (ih : GetR base gb oa ya G aa ats f) : GetR base gb oa ya G aa ats (f + 1):=by
 intro rb w c b m S V A h0 h hwk hcb hA d
 rw [show 7 - ((f + 1 : Nat) : Int) = 6 - (f : Int) from by omega]
 refine W.of (fun r hx=>Am.r196 hx) ?_
 ((try simp only [n1,n2,n3,n4,n5,n6] at d); (with_reducible repeat first|refine W.a1 d ?_|refine W.a2 ?_|refine W.a3 ?_|refine W.bo ?_|refine W.a5 d fun hw d lw kw=>?_|refine W.a6 d ?_|refine W.a7 ?_|refine W.a8 ?_); (refine W.nD d fun h1 d _ kh1=>?_); (with_reducible repeat first|refine W.a1 d ?_|refine W.a2 ?_|refine W.a3 ?_|refine W.bo ?_|refine W.a5 d fun hw d lw kw=>?_|refine W.a6 d ?_|refine W.a7 ?_|refine W.a8 ?_))
 refine W.bs (implVal_run hwk.2) ?_
 ((try simp only [n1,n2,n3,n4,n5,n6] at d); (with_reducible repeat first|refine W.a1 d ?_|refine W.a2 ?_|refine W.a3 ?_|refine W.bo ?_|refine W.a5 d fun hw d lw kw=>?_|refine W.a6 d ?_|refine W.a7 ?_|refine W.a8 ?_))
 apply W.jb (badG b w c) d
 ·((try simp only [n1,n2,n3,n4,n5,n6] at d); (with_reducible repeat first|refine W.a1 d ?_|refine W.a2 ?_|refine W.a3 ?_|refine W.bo ?_|refine W.a5 d fun hw d lw kw=>?_|refine W.a6 d ?_|refine W.a7 ?_|refine W.a8 ?_))
  unfold badG
  refine W.ite (fun c1=>?_) (fun c1=>?_)
  ·rw [if_pos c1]; exact W.lb rfl rfl (KB.refl _ _)
  rw [if_neg c1]
  refine W.ite (fun c2=>?_) (fun c2=>?_)
  ·rw [if_pos c2]; exact W.lb rfl rfl (KB.refl _ _)
  rw [if_neg c2]
  refine W.ite (fun c3=>?_) (fun c3=>?_)
  ·rw [if_pos c3]; exact W.lb rfl rfl (KB.refl _ _)
  rw [if_neg c3]
  refine W.ifF (by simp; omega) ?_
  ((try simp only [n1,n2,n3,n4,n5,n6] at d); (with_reducible repeat first|refine W.a1 d ?_|refine W.a2 ?_|refine W.a3 ?_|refine W.bo ?_|refine W.a5 d fun hw d lw kw=>?_|refine W.a6 d ?_|refine W.a7 ?_|refine W.a8 ?_))
  exact W.lb rfl rfl (KB.refl _ _)
 intro h2 d n2
 ((try simp only [n1,n2,n3,n4,n5,n6] at d); (with_reducible repeat first|refine W.a1 d ?_|refine W.a2 ?_|refine W.a3 ?_|refine W.bo ?_|refine W.a5 d fun hw d lw kw=>?_|refine W.a6 d ?_|refine W.a7 ?_|refine W.a8 ?_))
 refine W.ite (fun cb=>?_) (fun cb=>?_)
 ·((try simp only [n1,n2,n3,n4,n5,n6] at d); (with_reducible repeat first|refine W.a1 d ?_|refine W.a2 ?_|refine W.a3 ?_|refine W.bo ?_|refine W.a5 d fun hw d lw kw=>?_|refine W.a6 d ?_|refine W.a7 ?_|refine W.a8 ?_))
  have d:=(d.tl).call (KB.refl NoB _) (fun _=>False) (fun y=>TmG base (f + 1 + 1) (fun _=>False) y tmZ (termV 0 0 ⟨#[]⟩ none 0)) tmZ_G (fun U y y' k hs x=>TmG.kp _ _ _ U y y' _ _ k hs x) (fun _ h=>h.elim)
  refine W.ret ⟨tmZ,termV 0 0 ⟨#[]⟩ none 0,_,_,true,rfl,d,?_⟩
  unfold OutT
  cases b with
  | true=>rfl
  | false=>
   have hcc:=hcb rfl
   have en : rdT chkI G ats (f + 1) w c = none:=by
    by_cases e1 : w < 0
    ·rw [rdT,if_pos (.inl e1)]
    ·by_cases e2 : valW w > 4000000
     ·exact rdT_big hG ha e2
     ·unfold badG at cb
      rw [w64i (n:=c + 1) (by omega) (by omega)] at cb
      simp [e1,e2] at cb
      rw [rdT,if_pos (.inr (by omega))]
   rw [en]
   simp
 ·have cb : badG b w c = false:=by simpa using cb
  unfold badG at cb
  have hb : b = false:=by cases b with
   | true=>simp at cb
   | false=>rfl
  subst hb
  have hcc:=hcb rfl
  simp only [Bool.false_eq_true,if_false] at cb
  have h1w : ¬ w < 0:=fun e=>by simp [e] at cb
  have h2w : ¬ valW w > 4000000:=fun e=>by simp [h1w,e] at cb
  have h3w : c < 100:=by
   rw [w64i (n:=c + 1) (by omega) (by omega)] at cb
   simp [h1w,h2w] at cb
   omega
  have ecc : IntKind.i64.wrap (c + 1) = c + 1:=w64i (by omega) (by omega)
  ((try simp only [n1,n2,n3,n4,n5,n6] at d); (with_reducible repeat first|refine W.a1 d ?_|refine W.a2 ?_|refine W.a3 ?_|refine W.bo ?_|refine W.a5 d fun hw d lw kw=>?_|refine W.a6 d ?_|refine W.a7 ?_|refine W.a8 ?_); (refine W.nD d fun h3 d _ kh3=>?_); (with_reducible repeat first|refine W.a1 d ?_|refine W.a2 ?_|refine W.a3 ?_|refine W.bo ?_|refine W.a5 d fun hw d lw kw=>?_|refine W.a6 d ?_|refine W.a7 ?_|refine W.a8 ?_))
  rw [ecc] at d
  have d:=d.front (Del.at (i:=2) rfl)
  simp only [n5,n6] at d
  have none_row : ∀ y,RowO base 42 4 (TmG base (f + 1)) (fun _=>False) y [] none:=fun y=>RowO.nil
  have fin : ∀ {h' : AH} {k n : Int} {s : ByteArray} {c' : Int} {b' : Bool},s.size≤maxLen→Hs base V h0 h' [(rb,208,gtV gb aa ats.length c' b'),(h2.length,42,termV k n s none 0),(h.length,42,termV 0 0 ⟨#[]⟩ none 0)] [⟨S,m,A⟩]→(match core G ats f w c with|some y=>(Tm.mk k n s [] = y.1∧c' = y.2∧b' = false)|none=>b' = true ∨ shB k n s 0 = false)→Half base gb rb h.length h2.length f G aa ats w c m S V A h0 ([some (.pointer (at0 rb)),some (.pointer (at0 h.length)),some (.pointer (at0 h2.length))],h'):=by
   intro h' k n s c' b' hs d hm
   have d:=d.call (KB.refl NoB _) (fun _=>False) (fun y=>RowO base 42 4 (TmG base (f + 1)) (fun _=>False) y [] none) (none_row _) (fun U y y' k hs x=>x.keep (TmG.kp _ _) k hs) (fun _ h=>h.elim)
   exact ⟨rfl,k,n,s,[],none,c',b',_,hs,by decide,d,hm⟩
  have vnn:=valW_nn w
  have tlt:=tagW_lt w
  refine W.joinP (Half base gb rb h.length h2.length f G aa ats w c m S V A h0) ?_ fun q hq=>?_
  ·refine W.bs implTag_run ?_
   ((try simp only [n1,n2,n3,n4,n5,n6] at d); (with_reducible repeat first|refine W.a1 d ?_|refine W.a2 ?_|refine W.a3 ?_|refine W.bo ?_|refine W.a5 d fun hw d lw kw=>?_|refine W.a6 d ?_|refine W.a7 ?_|refine W.a8 ?_))
   refine W.ite (fun t0=>?_) (fun t0=>?_)
   ·((try simp only [n1,n2,n3,n4,n5,n6] at d); (with_reducible repeat first|refine W.a1 d ?_|refine W.a2 ?_|refine W.a3 ?_|refine W.bo ?_|refine W.a5 d fun hw d lw kw=>?_|refine W.a6 d ?_|refine W.a7 ?_|refine W.a8 ?_))
    have t0 : tagW w = 0:=by simpa using t0
    rw [w64i (n:=valW w - 1000000) (by omega) (by omega)] at d
    refine W.inl (fin (by decide) d ?_)
    have hc : core G ats f w c = if valW w≤2000000 then some (Tm.mk 1 (valW w - 1000000) ⟨#[]⟩ [],c + 1) else none:=by unfold core; rw [if_pos t0]
    rw [hc]
    by_cases hv : valW w≤2000000
    ·rw [if_pos hv]; exact ⟨rfl,rfl,rfl⟩
    ·rw [if_neg hv]
     refine .inr ?_
     have : ¬ valW w - 1000000≤1000000:=by omega
     unfold shB inB; simp [this]
   have t0 : ¬ tagW w = 0:=by simpa using t0
   refine W.ite (fun t1=>?_) (fun t1=>?_)
   ·have t1 : tagW w = 1:=by simpa using t1
    have hc : core G ats f w c = ((ats[(valW w).toNat]?).bind fun s=>some (Tm.mk 2 0 s [],c + 1)):=by unfold core; rw [if_neg t0,if_pos t1]
    ((try simp only [n1,n2,n3,n4,n5,n6] at d); (with_reducible repeat first|refine W.a1 d ?_|refine W.a2 ?_|refine W.a3 ?_|refine W.bo ?_|refine W.a5 d fun hw d lw kw=>?_|refine W.a6 d ?_|refine W.a7 ?_|refine W.a8 ?_))
    refine W.ite (fun c1=>?_) (fun c1=>?_)
    ·have c1 : valW w ≥ (ats.length : Int):=by simpa using c1
     ((try simp only [n1,n2,n3,n4,n5,n6] at d); (with_reducible repeat first|refine W.a1 d ?_|refine W.a2 ?_|refine W.a3 ?_|refine W.bo ?_|refine W.a5 d fun hw d lw kw=>?_|refine W.a6 d ?_|refine W.a7 ?_|refine W.a8 ?_))
     refine W.mp ?_
     ((try simp only [n1,n2,n3,n4,n5,n6] at d); (with_reducible repeat first|refine W.a1 d ?_|refine W.a2 ?_|refine W.a3 ?_|refine W.bo ?_|refine W.a5 d fun hw d lw kw=>?_|refine W.a6 d ?_|refine W.a7 ?_|refine W.a8 ?_))
     have d:=d.takeD 1
     have d:=d.call (KB.refl NoB _) (fun _=>False) (fun y=>TmG base (f + 1 + 1) (fun _=>False) y tmZ (termV 0 0 ⟨#[]⟩ none 0)) tmZ_G (fun U y y' k hs x=>TmG.kp _ _ _ U y y' _ _ k hs x) (fun _ h=>h.elim)
     refine W.ret ⟨tmZ,termV 0 0 ⟨#[]⟩ none 0,_,_,true,rfl,d,?_⟩
     have en : ats[(valW w).toNat]? = none:=List.getElem?_eq_none_iff.2 (by omega)
     unfold OutT
     rw [rdT_core h1w h3w,hc,en]
     rfl
    ·have c1 : valW w < (ats.length : Int):=by simpa using c1
     have hlt : (valW w).toNat < ats.length:=by omega
     ((try simp only [n1,n2,n3,n4,n5,n6] at d); (with_reducible repeat first|refine W.a1 d ?_|refine W.a2 ?_|refine W.a3 ?_|refine W.bo ?_|refine W.a5 d fun hw d lw kw=>?_|refine W.a6 d ?_|refine W.a7 ?_|refine W.a8 ?_))
     obtain ⟨ad,ea,g⟩:=(hA _ (d.rs (i:=0) rfl)).2.2.2.cell (i:=(valW w).toNat) (v:=.string ats[(valW w).toNat]) (by simp [hlt])
     have dd:=d
     subst ea
     refine W.bs rfl (W.bT (by rw [Nat.mul_one]; exact g) ?_)
     refine W.a5 d fun hx d lw kx=>?_
     obtain ⟨ad',ea',g'⟩:=(hA _ (d.rs (i:=0) rfl)).2.2.2.cell (i:=(valW w).toNat) (v:=.string ats[(valW w).toNat]) (by simp [hlt])
     injection ea' with ea'
     subst ea'
     refine W.gt (dd.gR (.tail _ (.head _)) d (.tail _ (.head _)) kx (ad:=⟨ad.block,ad.off + (valW w).toNat * 1,none⟩) (v:=.string ats[(valW w).toNat]) (by rw [Nat.mul_one]; exact g) (by rw [Nat.mul_one]; exact g')) ?_
     ((try simp only [n1,n2,n3,n4,n5,n6] at d); (with_reducible repeat first|refine W.a1 d ?_|refine W.a2 ?_|refine W.a3 ?_|refine W.bo ?_|refine W.a5 d fun hw d lw kw=>?_|refine W.a6 d ?_|refine W.a7 ?_|refine W.a8 ?_))
     refine W.inl (fin (hs _ (List.getElem_mem _)) d ?_)
     rw [hc,List.getElem?_eq_getElem hlt]
     exact ⟨rfl,rfl,rfl⟩
   have t1 : ¬ tagW w = 1:=by simpa using t1
   refine W.ite (fun t2=>?_) (fun t2=>?_)
   ·have t2 : tagW w = 2:=by simpa using t2
    have hc : core G ats f w c = some (Tm.mk 3 (valW w) ⟨#[]⟩ [],c + 1):=by unfold core; rw [if_neg t0,if_neg t1,if_pos t2]
    ((try simp only [n1,n2,n3,n4,n5,n6] at d); (with_reducible repeat first|refine W.a1 d ?_|refine W.a2 ?_|refine W.a3 ?_|refine W.bo ?_|refine W.a5 d fun hw d lw kw=>?_|refine W.a6 d ?_|refine W.a7 ?_|refine W.a8 ?_))
    refine W.inl (fin (by decide) d ?_)
    rw [hc]
    exact ⟨rfl,rfl,rfl⟩
   have t2 : ¬ tagW w = 2:=by simpa using t2
   refine W.ite (fun t3=>?_) (fun t3=>?_)
   ·have t3 : tagW w = 3:=by simpa using t3
    have hc : core G ats f w c = if w = 3 then some (Tm.mk 5 0 ⟨#[]⟩ [],c + 1) else none:=by
     unfold core
     rw [if_neg t0,if_neg t1,if_neg t2,if_neg (by omega),if_neg (by omega),if_neg (by omega),rdL_end (.inr (by omega))]
     split <;> rfl
    ((try simp only [n1,n2,n3,n4,n5,n6] at d); (with_reducible repeat first|refine W.a1 d ?_|refine W.a2 ?_|refine W.a3 ?_|refine W.bo ?_|refine W.a5 d fun hw d lw kw=>?_|refine W.a6 d ?_|refine W.a7 ?_|refine W.a8 ?_))
    refine W.inl (fin (by decide) d ?_)
    rw [hc]
    by_cases e3 : w = 3
    ·subst e3; exact ⟨rfl,rfl,rfl⟩
    ·rw [if_neg e3]
     refine .inl ?_
     have : valW w ≠ 0:=by
      unfold valW tagW at *
      rw [if_neg h1w] at *
      omega
     simpa using this
   have t3 : ¬ tagW w = 3:=by simpa using t3
   refine W.ite (fun t4=>?_) (fun t4=>?_)
   ·have t4 : tagW w = 4:=by simpa using t4
    have hc : core G ats f w c = ((gwd G (valW w)).bind fun n=>if inB n 0 8 = true then (rdS G (rdT chkI G ats f) n.toNat (valW w + 1) (c + 1)).bind fun y=>some (Tm.mk 4 0 ⟨#[]⟩ y.1,y.2) else none):=by unfold core; rw [if_neg t0,if_neg t1,if_neg t2,if_pos t4]
    have d1:=Hs.part (D1:=[_]) (R1:=[_]) d
    refine W.wb (tuple_run (c:=c + 1) (b:=false) hG (by omega) (by omega) hA ih (fun _=>by omega) d1) ?_
    rintro ⟨u,h4⟩ ⟨l,a',c',b',S',y1,hl8,d2,ho⟩
    simp only at y1 d2
    subst y1
    have d:=Hs.back (D1:=[_]) (R1:=[_]) d d2 (imA rfl)
    ((try simp only [n1,n2,n3,n4,n5,n6] at d); (with_reducible repeat first|refine W.a1 d ?_|refine W.a2 ?_|refine W.a3 ?_|refine W.bo ?_|refine W.a5 d fun hw d lw kw=>?_|refine W.a6 d ?_|refine W.a7 ?_|refine W.a8 ?_))
    have d : Hs base V h0 hw [(rb,208,gtV gb aa ats.length c' b'),(h2.length,42,termV 4 0 ⟨#[]⟩ a' l.length),(h.length,42,termV 0 0 ⟨#[]⟩ none 0)] [⟨S,m,A⟩,rTs base (f + 1) S' l a']:=d
    refine W.inl ⟨rfl,4,0,⟨#[]⟩,l,a',c',b',S',by decide,Nat.le_trans hl8 (by decide),d,?_⟩
    rw [hc]
    unfold OutL at ho
    simp only [Bool.false_eq_true,if_false] at ho
    cases e1 : gwd G (valW w) with
    | none=>rw [e1] at ho; exact .inl ho
    | some v=>
     rw [e1] at ho
     simp only [Option.bind_some] at ho ⊢
     by_cases hv : inB v 0 8 = true
     ·rw [if_pos hv] at ho ⊢
      cases e2 : rdS G (rdT chkI G ats f) v.toNat (valW w + 1) (c + 1) with
      | none=>rw [e2] at ho; exact .inl ho
      | some y=>
       rw [e2] at ho
       obtain ⟨i1,i2,i3⟩:=ho
       exact ⟨by rw [i1]; rfl,i2,i3⟩
     ·rw [if_neg hv] at ho ⊢
      exact .inl ho
   have t4 : ¬ tagW w = 4:=by simpa using t4
   refine W.ite (fun t5=>?_) (fun t5=>?_)
   ·have t5 : tagW w = 5:=by simpa using t5
    have hc : core G ats f w c = ((rdL G (rdT chkI G ats f) 20 w (c + 1)).bind fun y=>some (Tm.mk 5 0 ⟨#[]⟩ y.1,y.2)):=by unfold core; rw [if_neg t0,if_neg t1,if_neg t2,if_neg t4,if_neg (by omega),if_neg (by omega)]
    have d1:=Hs.part (D1:=[_]) (R1:=[_]) d
    refine W.wb (list_run (c:=c + 1) (b:=false) hG hwk (by omega) hA ih (fun _=>by omega) d1) ?_
    rintro ⟨u,h4⟩ ⟨l,a',c',b',S',y1,hl8,d2,ho⟩
    simp only at y1 d2
    subst y1
    have d:=Hs.back (D1:=[_]) (R1:=[_]) d d2 (imA rfl)
    ((try simp only [n1,n2,n3,n4,n5,n6] at d); (with_reducible repeat first|refine W.a1 d ?_|refine W.a2 ?_|refine W.a3 ?_|refine W.bo ?_|refine W.a5 d fun hw d lw kw=>?_|refine W.a6 d ?_|refine W.a7 ?_|refine W.a8 ?_))
    have d : Hs base V h0 hw [(rb,208,gtV gb aa ats.length c' b'),(h2.length,42,termV 5 0 ⟨#[]⟩ a' l.length),(h.length,42,termV 0 0 ⟨#[]⟩ none 0)] [⟨S,m,A⟩,rTs base (f + 1) S' l a']:=d
    refine W.inl ⟨rfl,5,0,⟨#[]⟩,l,a',c',b',S',by decide,Nat.le_trans hl8 (by decide),d,?_⟩
    rw [hc]
    unfold OutL at ho
    simp only [Bool.false_eq_true,if_false] at ho
    have h21:=rdL_21 (G:=G) (g:=rdT chkI G ats f) (w:=w) (c:=c + 1)
    cases e1 : rdL G (rdT chkI G ats f) 20 w (c + 1) with
    | none=>
     rw [e1] at h21
     rcases h21 with h21|⟨y,h21,hy⟩
     ·rw [h21] at ho; exact .inl ho
     ·rw [h21] at ho
      obtain ⟨i1,i2,i3⟩:=ho
      refine .inr ?_
      have : ¬ (l.length : Int)≤20:=by rw [i1]; simp; omega
      unfold shB
      simp [this]
    | some y=>
     rw [e1] at h21
     rw [h21.1] at ho
     obtain ⟨i1,i2,i3⟩:=ho
     exact ⟨by rw [i1]; rfl,i2,i3⟩
   have t5 : ¬ tagW w = 5:=by simpa using t5
   refine W.ite (fun t6=>?_) (fun t6=>?_)
   ·have t6 : tagW w = 6:=by simpa using t6
    have hc : core G ats f w c = ((gwd G (valW w)).bind fun n=>if inB n 0 40 = true then (rdB G n.toNat (valW w + 1)).bind fun y=>some (Tm.mk 6 0 (bstr y) [],c + 1) else none):=by unfold core; rw [if_neg t0,if_neg t1,if_neg t2,if_neg t4,if_pos t6]
    have d1:=Hs.part (D1:=[_]) (R1:=[_]) d
    refine W.wb (bin_run (c:=c + 1) (b:=false) hG (by omega) hA d1) ?_
    rintro ⟨u,h4⟩ ⟨s,b',y1,hs40,d2,ho⟩
    simp only at y1 d2
    subst y1
    have d:=Hs.back (D1:=[_]) (R1:=[_]) d d2 (fun r hr hm=>⟨r,hr,hm,rfl⟩)
    ((try simp only [n1,n2,n3,n4,n5,n6] at d); (with_reducible repeat first|refine W.a1 d ?_|refine W.a2 ?_|refine W.a3 ?_|refine W.bo ?_|refine W.a5 d fun hw d lw kw=>?_|refine W.a6 d ?_|refine W.a7 ?_|refine W.a8 ?_))
    refine W.inl (fin (by have : s.size≤40:=hs40; exact Nat.le_trans this (by decide)) d ?_)
    rw [hc]
    simp only [Bool.false_eq_true,if_false] at ho
    cases e1 : gwd G (valW w) with
    | none=>rw [e1] at ho; exact .inl ho
    | some v=>
     rw [e1] at ho
     simp only [Option.bind_some] at ho ⊢
     by_cases hv : inB v 0 40 = true
     ·rw [if_pos hv] at ho ⊢
      cases e2 : rdB G v.toNat (valW w + 1) with
      | none=>rw [e2] at ho; exact .inl ho
      | some y=>
       rw [e2] at ho
       obtain ⟨i1,i2⟩:=ho
       exact ⟨by rw [i1],rfl,i2⟩
     ·rw [if_neg hv] at ho ⊢
      exact .inl ho
   ·have t6 : ¬ tagW w = 6:=by simpa using t6
    have hc : core G ats f w c = none:=by unfold core; rw [if_neg t0,if_neg t1,if_neg t2,if_neg t4,if_neg t6,if_pos (by omega)]
    ((try simp only [n1,n2,n3,n4,n5,n6] at d); (with_reducible repeat first|refine W.a1 d ?_|refine W.a2 ?_|refine W.a3 ?_|refine W.bo ?_|refine W.a5 d fun hw d lw kw=>?_|refine W.a6 d ?_|refine W.a7 ?_|refine W.a8 ?_))
    refine W.inl (fin (by decide) d ?_)
    rw [hc]
    exact .inl rfl
  ·obtain ⟨q1,h4⟩:=q
   obtain ⟨e,k,n,s,l,a,c',b',S',hsz,hlz,d,hm⟩:=hq
   simp only at e d
   subst e
   ((try simp only [n1,n2,n3,n4,n5,n6] at d); (with_reducible repeat first|refine W.a1 d ?_|refine W.a2 ?_|refine W.a3 ?_|refine W.bo ?_|refine W.a5 d fun hw d lw kw=>?_|refine W.a6 d ?_|refine W.a7 ?_|refine W.a8 ?_))
   refine W.joinP (fun q=>q.1 = [some (.pointer (at0 h.length)),some (.pointer (at0 h2.length))]∧Hs base V h0 q.2 [(rb,208,gtV gb aa ats.length c' (b' || !shB k n s l.length)),(h2.length,42,termV k n s a l.length),(h.length,42,termV 0 0 ⟨#[]⟩ none 0)] [⟨S,m,A⟩,rTs base (f + 1) S' l a]) ?_ fun q hq=>?_
   ·((try simp only [n1,n2,n3,n4,n5,n6] at d); (with_reducible repeat first|refine W.a1 d ?_|refine W.a2 ?_|refine W.a3 ?_|refine W.bo ?_|refine W.a5 d fun hw d lw kw=>?_|refine W.a6 d ?_|refine W.a7 ?_|refine W.a8 ?_))
    refine W.ite (fun c1=>?_) (fun c1=>?_)
    ·((try simp only [n1,n2,n3,n4,n5,n6] at d); (with_reducible repeat first|refine W.a1 d ?_|refine W.a2 ?_|refine W.a3 ?_|refine W.bo ?_|refine W.a5 d fun hw d lw kw=>?_|refine W.a6 d ?_|refine W.a7 ?_|refine W.a8 ?_))
     rw [c1]
     exact W.inl ⟨rfl,d⟩
    ·have c1 : b' = false:=by simpa using c1
     ((try simp only [n1,n2,n3,n4,n5,n6] at d); (with_reducible repeat first|refine W.a1 d ?_|refine W.a2 ?_|refine W.a3 ?_|refine W.bo ?_|refine W.a5 d fun hw d lw kw=>?_|refine W.a6 d ?_|refine W.a7 ?_|refine W.a8 ?_))
     obtain ⟨h5,e5,k5⟩:=fieldsOk_run (base:=base) (h:=h4) (k:=k) (n:=n) (s:=s) (a:=a) (m:=l.length) (by have:=hsz; unfold maxLen at this; omega) d.ge
     have d:=d.kN k5
     refine W.bs e5 ?_
     ((try simp only [n1,n2,n3,n4,n5,n6] at d); (with_reducible repeat first|refine W.a1 d ?_|refine W.a2 ?_|refine W.a3 ?_|refine W.bo ?_|refine W.a5 d fun hw d lw kw=>?_|refine W.a6 d ?_|refine W.a7 ?_|refine W.a8 ?_))
     rw [c1]
     exact W.inl ⟨rfl,d⟩
   ·obtain ⟨q1,h5⟩:=q
    obtain ⟨e,d⟩:=hq
    simp only at e d
    subst e
    ((try simp only [n1,n2,n3,n4,n5,n6] at d); (with_reducible repeat first|refine W.a1 d ?_|refine W.a2 ?_|refine W.a3 ?_|refine W.bo ?_|refine W.a5 d fun hw d lw kw=>?_|refine W.a6 d ?_|refine W.a7 ?_|refine W.a8 ?_))
    have d:=d.takeD 1
    have row : RowO base 42 4 (TmG base (f + 1)) S' hw l a:=d.rs (i:=1) rfl
    have d:=d.re (r:=rTs base (f + 1) S' l a) (r':=⟨S',true,fun y=>TmG base (f + 1 + 1) S' y (.mk k n s l) (termV k n s a l.length)⟩) (Upd.at (i:=1) rfl) rfl rfl ⟨hsz,hlz,a,rfl,row⟩ (fun U y y' k hs x=>TmG.kp _ _ _ U y y' _ _ k hs x) (fun b hb=>hb)
    refine W.ret ⟨.mk k n s l,termV k n s a l.length,S',c',_,rfl,d,?_⟩
    unfold OutT
    rw [if_neg (by decide),rdT_core h1w h3w]
    cases e1 : core G ats f w c with
    | none=>
     rw [e1] at hm
     simp only [Option.bind_none]
     rcases hm with hm|hm <;> simp [hm]
    | some y=>
     rw [e1] at hm
     obtain ⟨i1,i2,i3⟩:=hm
     simp only [Option.bind_some]
     have ei : chkI y.1 = shB k n s l.length:=by rw [← i1]; rfl
     cases e2 : shB k n s l.length with
     | true=>rw [if_pos (by rw [ei,e2])]; exact ⟨i1,i2,by rw [i3]; rfl⟩
     | false=>rw [if_neg (by rw [ei,e2]; decide)]; simp
end Go.Proofs.Ytkdenmdijdmnjaa.Am
set_option linter.unusedSimpArgs false
set_option linter.unusedVariables false
namespace Go.Proofs.Ytkdenmdijdmnjaa.Am
open Go Go.RowKit
theorem getR_all {base gb : Nat} {oa ya : Option Addr} {G : Gn} {aa : Option Addr} {ats : List ByteArray} (hG : G.Ok) (ha : ats.length≤1048576) (hs : ∀ s ∈ ats,s.size≤maxLen) : ∀ f,f≤6→GetR base gb oa ya G aa ats f
 | 0,_=>get_zero
 | f + 1,hf=>get_succ hG ha hs (by omega) (getR_all hG ha hs f (by omega))
def gRd (G : Gn) (ats : List ByteArray) (w : Int) : Tm × Bool:=match rdT chkI G ats 6 w 0 with
 | some y=>if tOk 7 y.1 = true then (y.1,true) else (tmZ,false)
 | none=>(tmZ,false)
def RdA (base : Nat) (oa ya : Option Addr) (G : Gn) (aa : Option Addr) (ats : List ByteArray) (h : AH) : Prop:=
 TyOk base h oa 3∧TyOk base h ya 3∧TyOk base h aa 9∧GnS h oa ya G∧Sl h aa (ats.map .string)
theorem RdA.keep {base : Nat} {oa ya : Option Addr} {G : Gn} {aa : Option Addr} {ats : List ByteArray} {U : Fp} {h h' : AH} (x : RdA base oa ya G aa ats h) (k : KB U h h') (hS : ∀ b,blk oa b ∨ blk ya b ∨ blk aa b→¬ U b) : RdA base oa ya G aa ats h':=by
 obtain ⟨a,b,c,⟨d,e⟩,f⟩:=x
 exact ⟨a.keep k fun i hi=>hS i (.inl hi),b.keep k fun i hi=>hS i (.inr (.inl hi)),c.keep k fun i hi=>hS i (.inr (.inr hi)),⟨d.keep k fun i hi=>hS i (.inl hi),e.keep k fun i hi=>hS i (.inr (.inl hi))⟩,f.keep k fun i hi=>hS i (.inr (.inr hi))⟩
theorem RdA.keepN {base : Nat} {oa ya : Option Addr} {G : Gn} {aa : Option Addr} {ats : List ByteArray} {h h' : AH} (x : RdA base oa ya G aa ats h) (k : KB NoB h h') : RdA base oa ya G aa ats h':=x.keep k fun _ _ h=>h
theorem TyOk.lt {base t : Nat} {h : AH} {a : Option Addr} (x : TyOk base h a t) : ∀ b,blk a b→b < h.length:=fun b ⟨ad,e,e2⟩=>e2 ▸ (x ad e).1
theorem RdA.lt {base : Nat} {oa ya : Option Addr} {G : Gn} {aa : Option Addr} {ats : List ByteArray} {h : AH} (x : RdA base oa ya G aa ats h) : ∀ b,blk oa b ∨ blk ya b ∨ blk aa b→b < h.length:=by
 obtain ⟨a,b,c,_⟩:=x
 rintro i (hi|hi|hi)
 ·exact a.lt i hi
 ·exact b.lt i hi
 ·exact c.lt i hi
theorem cell_lt {h : AH} {b o : Nat} {v : Value} (e : Am.cell h b o = some v) : b < h.length:=by
 by_cases hc : b < h.length
 ·exact hc
 ·have : Am.cell h b o = none:=by
   unfold Am.cell hget
   rw [List.getElem?_eq_none_iff.2 (by omega)]
   rfl
  rw [this] at e; cases e
theorem cell_keepU {U : Fp} {h h' : AH} {b o : Nat} {v : Value} (e : Am.cell h b o = some v) (k : KB U h h') (hb : ¬ U b) : Am.cell h' b o = some v:=by
 have hlt:=cell_lt e
 unfold Am.cell at e ⊢
 rw [k.2 _ hlt hb]
 exact e
theorem implRead_run {base gb : Nat} {h : AH} {oa ya : Option Addr} {G : Gn} {aa : Option Addr} {ats : List ByteArray} {w : Int} (hG : G.Ok) (ha : ats.length≤1048576) (hs : ∀ s ∈ ats,s.size≤maxLen) (hw : wOk w) (g0 : Am.cell h gb 0 = some (.slice oa G.old.length G.old.length)) (g1 : Am.cell h gb 1 = some (.slice ya G.young.length G.young.length)) (x : RdA base oa ya G aa ats h) (hb : base≤h.length) :
  ∃ cs' h',run (Et base) 160 [.func (.func 154) #[.pointer (at0 gb)] #[],.slice aa ats.length ats.length,.int .i64 w] h = some (.tuple #[.agg cs'.toArray,.bool (gRd G ats w).2],h')∧TmG base 7 (iS h.length h'.length) h' (gRd G ats w).1 cs'∧KB NoB h h':=by
 have hgb : gb < h.length:=cell_lt g0
 have xlt:=x.lt
 have d:=Hs.start hb
 have d:=d.inp (fun b=>b < h.length) (fun y=>GrB y gb oa ya G aa ats∧RdA base oa ya G aa ats y) ⟨⟨g0,g1,x.2.2.2.1,x.2.2.2.2⟩,x⟩ (fun U y y' k hS q=>by
  have q2:=q.2.keep k fun i hi=>hS i (xlt i hi)
  exact ⟨⟨cell_keepU q.1.1 k (hS _ hgb),cell_keepU q.1.2.1 k (hS _ hgb),q2.2.2.2.1,q2.2.2.2.2⟩,q2⟩) (fun b hb=>hb) (fun x hx=>nomatch hx) rfl
 suffices W : Wp (run (Et base) 160 [.func (.func 154) #[.pointer (at0 gb)] #[],.slice aa ats.length ats.length,.int .i64 w] h) fun o=>∃ cs',o.1 = .tuple #[.agg cs'.toArray,.bool (gRd G ats w).2]∧TmG base 7 (iS h.length o.2.length) o.2 (gRd G ats w).1 cs'∧KB NoB h o.2 by
  obtain ⟨⟨o1,o2⟩,e,cs',y1,y2,y3⟩:=W
  simp only at y1 y2 y3
  subst y1
  exact ⟨cs',o2,e,y2,y3⟩
 refine W.of (fun r hx=>Am.r160 hx) ?_
 ((try simp only [n1,n2,n3,n4,n5,n6] at d); (with_reducible repeat first|refine W.a1 d ?_|refine W.a2 ?_|refine W.a3 ?_|refine W.bo ?_|refine W.a5 d fun hw d lw kw=>?_|refine W.a6 d ?_|refine W.a7 ?_|refine W.a8 ?_); (refine W.nD d fun p1 d _ kp1=>?_); (with_reducible repeat first|refine W.a1 d ?_|refine W.a2 ?_|refine W.a3 ?_|refine W.bo ?_|refine W.a5 d fun hw d lw kw=>?_|refine W.a6 d ?_|refine W.a7 ?_|refine W.a8 ?_); (refine W.nD d fun p2 d _ kp2=>?_); (with_reducible repeat first|refine W.a1 d ?_|refine W.a2 ?_|refine W.a3 ?_|refine W.bo ?_|refine W.a5 d fun hw d lw kw=>?_|refine W.a6 d ?_|refine W.a7 ?_|refine W.a8 ?_))
 have d1:=Hs.part (D1:=[_]) (R1:=[_]) d
 refine W.wb (getR_all (base:=base) (gb:=gb) hG ha hs 6 (Nat.le_refl _) p1.length w 0 false _ _ _ _ _ _ hw (fun _=>by omega) (fun y hy=>hy.1) d1) ?_
 rintro ⟨u,h4⟩ ⟨t,cs',S',c',b',y1,d2,ho⟩
 simp only at y1 d2
 subst y1
 have d:=Hs.back (D1:=[_]) (R1:=[_]) d d2 (imA rfl)
 have tg : TmG base 7 S' h4 t _:=d.rs (i:=1) rfl
 obtain ⟨k1,k2,k3,k4,k5,rfl⟩:=tg.form
 ((try simp only [n1,n2,n3,n4,n5,n6] at d); (with_reducible repeat first|refine W.a1 d ?_|refine W.a2 ?_|refine W.a3 ?_|refine W.bo ?_|refine W.a5 d fun hw d lw kw=>?_|refine W.a6 d ?_|refine W.a7 ?_|refine W.a8 ?_); (refine W.nD d fun h9 d _ kh9=>?_); (with_reducible repeat first|refine W.a1 d ?_|refine W.a2 ?_|refine W.a3 ?_|refine W.bo ?_|refine W.a5 d fun hw d lw kw=>?_|refine W.a6 d ?_|refine W.a7 ?_|refine W.a8 ?_))
 apply W.jb (b' || !tOk 7 t) d
 ·((try simp only [n1,n2,n3,n4,n5,n6] at d); (with_reducible repeat first|refine W.a1 d ?_|refine W.a2 ?_|refine W.a3 ?_|refine W.bo ?_|refine W.a5 d fun hw d lw kw=>?_|refine W.a6 d ?_|refine W.a7 ?_|refine W.a8 ?_))
  refine W.ite (fun c=>?_) (fun c=>?_)
  ·rw [c]; exact W.lb rfl rfl (KB.refl _ _)
  ·have c : b' = false:=by simpa using c
   rw [c]
   ((try simp only [n1,n2,n3,n4,n5,n6] at d); (with_reducible repeat first|refine W.a1 d ?_|refine W.a2 ?_|refine W.a3 ?_|refine W.bo ?_|refine W.a5 d fun hw d lw kw=>?_|refine W.a6 d ?_|refine W.a7 ?_|refine W.a8 ?_))
   obtain ⟨h5,e5,k5'⟩:=implTermOk_run (base:=base) (d.rs (i:=1) rfl : TmG base 7 S' hw t _).tmR d.ge
   have d:=d.kN k5'
   refine W.bs e5 ?_
   ((try simp only [n1,n2,n3,n4,n5,n6] at d); (with_reducible repeat first|refine W.a1 d ?_|refine W.a2 ?_|refine W.a3 ?_|refine W.bo ?_|refine W.a5 d fun hw d lw kw=>?_|refine W.a6 d ?_|refine W.a7 ?_|refine W.a8 ?_))
   exact W.lb rfl rfl k5'
 intro h11 d n11
 ((try simp only [n1,n2,n3,n4,n5,n6] at d); (with_reducible repeat first|refine W.a1 d ?_|refine W.a2 ?_|refine W.a3 ?_|refine W.bo ?_|refine W.a5 d fun hw d lw kw=>?_|refine W.a6 d ?_|refine W.a7 ?_|refine W.a8 ?_))
 have hgr : gRd G ats w = if (b' || !tOk 7 t) = true then (tmZ,false) else (t,true):=by
  unfold gRd
  unfold OutT at ho
  rw [if_neg (by decide)] at ho
  cases e1 : rdT chkI G ats 6 w 0 with
  | none=>rw [e1] at ho; rw [ho]; rfl
  | some y=>
   rw [e1] at ho
   obtain ⟨i1,i2,i3⟩:=ho
   rw [i3,i1]
   simp only [Bool.false_or]
   cases tOk 7 y.1 <;> rfl
 refine W.ite (fun c=>?_) (fun c=>?_)
 ·rw [hgr,if_pos c]
  ((try simp only [n1,n2,n3,n4,n5,n6] at d); (with_reducible repeat first|refine W.a1 d ?_|refine W.a2 ?_|refine W.a3 ?_|refine W.bo ?_|refine W.a5 d fun hw d lw kw=>?_|refine W.a6 d ?_|refine W.a7 ?_|refine W.a8 ?_))
  exact W.ret ⟨_,rfl,tmZ_G,d.kb⟩
 ·rw [hgr,if_neg c]
  ((try simp only [n1,n2,n3,n4,n5,n6] at d); (with_reducible repeat first|refine W.a1 d ?_|refine W.a2 ?_|refine W.a3 ?_|refine W.bo ?_|refine W.a5 d fun hw d lw kw=>?_|refine W.a6 d ?_|refine W.a7 ?_|refine W.a8 ?_))
  exact W.ret ⟨_,rfl,d.out (TmG.mo _ _) (i:=1) rfl,d.kb⟩
theorem implGensRead_run {base : Nat} {h : AH} {oa ya : Option Addr} {G : Gn} {aa : Option Addr} {ats : List ByteArray} {w : Int} (hG : G.Ok) (ha : ats.length≤1048576) (hs : ∀ s ∈ ats,s.size≤maxLen) (hw : wOk w) (x : RdA base oa ya G aa ats h) (hb : base≤h.length) :
  ∃ cs' h',run (Et base) 108 [.agg (gensV oa ya G).toArray,.slice aa ats.length ats.length,.int .i64 w] h = some (.tuple #[.agg cs'.toArray,.bool (gRd G ats w).2],h')∧TmG base 7 (iS h.length h'.length) h' (gRd G ats w).1 cs'∧KB NoB h h':=by
 have d:=Hs.start hb
 suffices W : Wp (run (Et base) 108 [.agg (gensV oa ya G).toArray,.slice aa ats.length ats.length,.int .i64 w] h) fun o=>∃ cs',o.1 = .tuple #[.agg cs'.toArray,.bool (gRd G ats w).2]∧TmG base 7 (iS h.length o.2.length) o.2 (gRd G ats w).1 cs'∧KB NoB h o.2 by
  obtain ⟨⟨o1,o2⟩,e,cs',y1,y2,y3⟩:=W
  simp only at y1 y2 y3
  subst y1
  exact ⟨cs',o2,e,y2,y3⟩
 refine W.of (fun r hx=>Am.r108 hx) ?_
 ((try simp only [n1,n2,n3,n4,n5,n6] at d); (with_reducible repeat first|refine W.a1 d ?_|refine W.a2 ?_|refine W.a3 ?_|refine W.bo ?_|refine W.a5 d fun hw d lw kw=>?_|refine W.a6 d ?_|refine W.a7 ?_|refine W.a8 ?_); (refine W.nD d fun p1 d _ kp1=>?_); (with_reducible repeat first|refine W.a1 d ?_|refine W.a2 ?_|refine W.a3 ?_|refine W.bo ?_|refine W.a5 d fun hw d lw kw=>?_|refine W.a6 d ?_|refine W.a7 ?_|refine W.a8 ?_); (refine W.nD d fun p2 d _ kp2=>?_); (with_reducible repeat first|refine W.a1 d ?_|refine W.a2 ?_|refine W.a3 ?_|refine W.bo ?_|refine W.a5 d fun hw d lw kw=>?_|refine W.a6 d ?_|refine W.a7 ?_|refine W.a8 ?_))
 obtain ⟨cs',h3,e3,t3,k3⟩:=implRead_run (base:=base) (gb:=h.length) hG ha hs hw (d.getI (.tail _ (.head _)) rfl) (d.getI (.tail _ (.head _)) rfl) (x.keepN d.kb) d.ge
 refine W.bs e3 ?_
 have d:=d.callP (TmG.kp _ _) k3 t3
 obtain ⟨k1,k2,k3,k4,k5,rfl⟩:=t3.form
 ((try simp only [n1,n2,n3,n4,n5,n6] at d); (with_reducible repeat first|refine W.a1 d ?_|refine W.a2 ?_|refine W.a3 ?_|refine W.bo ?_|refine W.a5 d fun hw d lw kw=>?_|refine W.a6 d ?_|refine W.a7 ?_|refine W.a8 ?_))
 exact W.ret ⟨_,rfl,d.out (TmG.mo _ _) (i:=0) rfl,d.kb⟩
end Go.Proofs.Ytkdenmdijdmnjaa.Am
set_option linter.unusedSimpArgs false
set_option linter.unusedVariables false
namespace Go.Proofs.Ytkdenmdijdmnjaa.Am
open Go Go.RowKit
def gwl (G : Gn) (p : Int) : List Int:=if 100000≤p then G.young else G.old
def gwp (p : Int) : Int:=if 100000≤p then p - 100000 else p
def gwB (G : Gn) (p n : Int) : Bool:=inB (gwp p) 0 (gwl G p).length && inB n 0 ((gwl G p).length - gwp p)
def gws (G : Gn) (p n : Int) : List Int:=if gwB G p n = true then ((gwl G p).drop (gwp p).toNat).take n.toNat else []
theorem gwB_iff {G : Gn} {p n : Int} : gwB G p n = true ↔ (0≤gwp p∧gwp p≤(gwl G p).length)∧0≤n∧n≤(gwl G p).length - gwp p:=by
 unfold gwB inB
 simp only [Bool.and_eq_true,decide_eq_true_eq]
theorem gws_len {G : Gn} {p n : Int} (h : gwB G p n = true) : ((gws G p n).length : Int) = n:=by
 unfold gws
 rw [if_pos h]
 have:=gwB_iff.1 h
 rw [List.length_take,List.length_drop]
 omega
theorem gws_at {G : Gn} (ho : G.old.length≤1000) {p n : Int} (h : gwB G p n = true) {i : Nat} (hi : i < (gws G p n).length) : gwd G (p + i) = some (gws G p n)[i]:=by
 have hl:=gws_len h
 have h2:=gwB_iff.1 h
 have e : (gws G p n)[i]? = (gwl G p)[(gwp p).toNat + i]?:=by
  unfold gws
  rw [if_pos h,List.getElem?_take_of_lt (by omega),List.getElem?_drop]
 rw [List.getElem?_eq_getElem hi] at e
 rw [e]
 unfold gwl gwp at *
 unfold gwd ati
 by_cases c : 100000≤p
 ·rw [if_pos c] at h2 ⊢
  rw [if_pos c,if_pos (by omega),if_pos (by omega)]
  rw [if_pos c] at h2
  congr 1
  omega
 ·rw [if_neg c] at h2 ⊢
  rw [if_neg c] at h2 ⊢
  rw [if_neg (by omega),if_pos (by omega)]
  congr 1
  omega
theorem gws_no {G : Gn} (ho : G.old.length≤1000) {p n : Int} (hn : 1≤n) (h : gwB G p n = false) : ∃ i : Nat,(i : Int) < n∧gwd G (p + i) = none:=by
 have h2 : ¬ ((0≤gwp p∧gwp p≤(gwl G p).length)∧0≤n∧n≤(gwl G p).length - gwp p):=fun h3=>by rw [gwB_iff.2 h3] at h; cases h
 unfold gwl gwp at h2
 unfold gwd ati
 by_cases c : 100000≤p
 ·rw [if_pos c,if_pos c] at h2
  refine ⟨if p - 100000 < G.young.length then (G.young.length - (p - 100000)).toNat else 0,?_,?_⟩
  ·split <;> omega
  ·rw [if_pos (by split <;> omega),if_pos (by split <;> omega)]
   exact List.getElem?_eq_none_iff.2 (by split <;> omega)
 ·rw [if_neg c,if_neg c] at h2
  by_cases c0 : p < 0
  ·refine ⟨0,by omega,?_⟩
   rw [if_neg (by omega),if_neg (by omega)]
  ·refine ⟨if p < G.old.length then (G.old.length - p).toNat else 0,?_,?_⟩
   ·split <;> omega
   ·rw [if_neg (by split <;> omega),if_pos (by split <;> omega)]
    exact List.getElem?_eq_none_iff.2 (by split <;> omega)
theorem gwB_one {G : Gn} (ho : G.old.length≤1000) {p : Int} : gwB G p 1 = (gwd G p).isSome:=by
 cases h : gwB G p 1 with
 | true=>
  have hl:=gws_len h
  have:=gws_at ho h (i:=0) (by omega)
  rw [show p + ((0 : Nat) : Int) = p from by omega] at this
  rw [this]; rfl
 | false=>
  obtain ⟨i,hi,e⟩:=gws_no ho (by omega) h
  have : i = 0:=by omega
  subst this
  rw [show p + ((0 : Nat) : Int) = p from by omega] at e
  rw [e]; rfl
theorem gws_one {G : Gn} (ho : G.old.length≤1000) {p n : Int} (h : gwd G p = some n) : gws G p 1 = [n]:=by
 have hb : gwB G p 1 = true:=by rw [gwB_one ho,h]; rfl
 have hl:=gws_len hb
 have e:=gws_at ho hb (i:=0) (by omega)
 rw [show p + ((0 : Nat) : Int) = p from by omega,h] at e
 injection e with e
 cases hh : gws G p 1 with
 | nil=>rw [hh] at hl; simp at hl
 | cons x r=>
  rw [hh] at hl
  have : r = []:=by
   cases r with
   | nil=>rfl
   | cons y r=>simp at hl; omega
  subst this
  simp only [hh,List.getElem_cons_zero] at e
  rw [e]
def GnO (base : Nat) (h : AH) (oa ya : Option Addr) (G : Gn) : Prop:=TyOk base h oa 3∧TyOk base h ya 3∧GnS h oa ya G
theorem RdA.gnO {base : Nat} {oa ya : Option Addr} {G : Gn} {aa : Option Addr} {ats : List ByteArray} {h : AH} (x : RdA base oa ya G aa ats h) : GnO base h oa ya G:=⟨x.1,x.2.1,x.2.2.2.1⟩
theorem GnO.keepN {base : Nat} {h h' : AH} {oa ya : Option Addr} {G : Gn} (x : GnO base h oa ya G) (k : KB NoB h h') : GnO base h' oa ya G:=⟨x.1.keepN k,x.2.1.keepN k,x.2.2.1.keepN k,x.2.2.2.keepN k⟩
theorem GnO.keep {base : Nat} {U : Fp} {h h' : AH} {oa ya : Option Addr} {G : Gn} (x : GnO base h oa ya G) (k : KB U h h') (hS : ∀ b,blk oa b ∨ blk ya b→¬ U b) : GnO base h' oa ya G:=
 ⟨x.1.keep k fun i hi=>hS i (.inl hi),x.2.1.keep k fun i hi=>hS i (.inr hi),x.2.2.1.keep k fun i hi=>hS i (.inl hi),x.2.2.2.keep k fun i hi=>hS i (.inr hi)⟩
theorem GnO.lt {base : Nat} {h : AH} {oa ya : Option Addr} {G : Gn} (x : GnO base h oa ya G) : ∀ b,blk oa b ∨ blk ya b→b < h.length:=fun b hb=>hb.elim (x.1.lt b) (x.2.1.lt b)
def gwa (oa ya : Option Addr) (p : Int) : Option Addr:=if 100000≤p then ya else oa
theorem GnO.part {base : Nat} {h : AH} {oa ya : Option Addr} {G : Gn} (x : GnO base h oa ya G) (p : Int) : TyOk base h (gwa oa ya p) 3∧Sl h (gwa oa ya p) (iv .i64 (gwl G p)):=by
 unfold gwa gwl
 split
 ·exact ⟨x.2.1,x.2.2.2⟩
 ·exact ⟨x.1,x.2.2.1⟩
theorem GnO.sl {base : Nat} {h : AH} {oa ya : Option Addr} {G : Gn} {p n : Int} (x : GnO base h oa ya G) (c : gwB G p n = true) : Sl h (shiftA (gwa oa ya p) (gwp p).toNat) (iv .i64 (gws G p n)):=by
 have c2:=gwB_iff.1 c
 have e2 : gws G p n = ((gwl G p).drop (gwp p).toNat).take n.toNat:=by unfold gws; rw [if_pos c]
 rw [e2,iv,List.map_take,List.map_drop]
 exact (x.part p).2.part (by rw [iv_length]; omega)
theorem GnO.inp {base : Nat} {h : AH} {oa ya : Option Addr} {G : Gn} (x : GnO base h oa ya G) (hb : base≤h.length) : Hs base NoB h h [] [⟨fun b=>b < h.length,false,fun y=>GnO base y oa ya G⟩]:=
 (Hs.start hb).inp (fun b=>b < h.length) (fun y=>GnO base y oa ya G) x (fun U y y' k hS q=>q.keep k fun i hi=>hS i (x.lt i hi)) (fun b hb=>hb) (fun x hx=>nomatch hx) rfl
theorem l6Words_run {base : Nat} {h : AH} {oa ya : Option Addr} {G : Gn} {p n : Int} (hG : G.Ok) (hp : wOk p) (hn : wOk n) (x : GnO base h oa ya G) (hb : base≤h.length) :
  ∃ a' h',run (Et base) 188 [.agg (gensV oa ya G).toArray,.int .i64 p,.int .i64 n] h = some (.tuple #[.slice a' (gws G p n).length (gws G p n).length,.bool (gwB G p n)],h')∧Sl h' a' (iv .i64 (gws G p n))∧KB NoB h h'∧(gwB G p n = true→a' = shiftA (gwa oa ya p) (gwp p).toNat):=by
 obtain ⟨g1,g2,g3,g4⟩:=hG
 obtain ⟨p1,p2⟩:=hp
 obtain ⟨n1,n2⟩:=hn
 have d:=x.inp hb
 suffices W : Wp (run (Et base) 188 [.agg (gensV oa ya G).toArray,.int .i64 p,.int .i64 n] h) fun o=>∃ a',o.1 = .tuple #[.slice a' (gws G p n).length (gws G p n).length,.bool (gwB G p n)]∧Sl o.2 a' (iv .i64 (gws G p n))∧KB NoB h o.2∧(gwB G p n = true→a' = shiftA (gwa oa ya p) (gwp p).toNat) by
  obtain ⟨⟨o1,o2⟩,e,a',y1,y2,y3⟩:=W
  simp only at y1 y2 y3
  subst y1
  exact ⟨a',o2,e,y2,y3⟩
 refine W.of (fun r hx=>Am.r188 hx) ?_
 ((try simp only [n1,n2,n3,n4,n5,n6] at d); (with_reducible repeat first|refine W.a1 d ?_|refine W.a2 ?_|refine W.a3 ?_|refine W.bo ?_|refine W.a5 d fun hw d lw kw=>?_|refine W.a6 d ?_|refine W.a7 ?_|refine W.a8 ?_); (refine W.nD d fun h1 d _ kh1=>?_); (with_reducible repeat first|refine W.a1 d ?_|refine W.a2 ?_|refine W.a3 ?_|refine W.bo ?_|refine W.a5 d fun hw d lw kw=>?_|refine W.a6 d ?_|refine W.a7 ?_|refine W.a8 ?_))
 have hl : (gwl G p).length≤1048576:=by unfold gwl; split <;> omega
 refine W.joinP (fun q=>q.1 = [some (.int .i64 (gwp p)),some (.int .i64 n),some (.slice (gwa oa ya p) (gwl G p).length (gwl G p).length)]∧q.2 = h1) ?_ fun q hq=>?_
 ·refine W.ite (fun c=>?_) (fun c=>?_)
  ·have c : 100000≤p:=by simpa using c
   ((try simp only [n1,n2,n3,n4,n5,n6] at d); (with_reducible repeat first|refine W.a1 d ?_|refine W.a2 ?_|refine W.a3 ?_|refine W.bo ?_|refine W.a5 d fun hw d lw kw=>?_|refine W.a6 d ?_|refine W.a7 ?_|refine W.a8 ?_))
   rw [w64i (n:=p - 100000) (by omega) (by omega)]
   refine W.inl ⟨?_,rfl⟩
   unfold gwp gwl gwa; rw [if_pos c,if_pos c,if_pos c]
  ·have c : ¬ 100000≤p:=by simpa using c
   refine W.inl ⟨?_,rfl⟩
   unfold gwp gwl gwa; rw [if_neg c,if_neg c,if_neg c]
 obtain ⟨q1,q2⟩:=q
 obtain ⟨e,e2⟩:=hq
 simp only at e e2
 subst e; subst e2
 ((try simp only [n1,n2,n3,n4,n5,n6] at d); (with_reducible repeat first|refine W.a1 d ?_|refine W.a2 ?_|refine W.a3 ?_|refine W.bo ?_|refine W.a5 d fun hw d lw kw=>?_|refine W.a6 d ?_|refine W.a7 ?_|refine W.a8 ?_))
 apply W.jb (!gwB G p n) d
 ·refine W.bs l1In_run ?_
  ((try simp only [n1,n2,n3,n4,n5,n6] at d); (with_reducible repeat first|refine W.a1 d ?_|refine W.a2 ?_|refine W.a3 ?_|refine W.bo ?_|refine W.a5 d fun hw d lw kw=>?_|refine W.a6 d ?_|refine W.a7 ?_|refine W.a8 ?_))
  unfold gwB
  refine W.ite (fun c=>?_) (fun c=>?_)
  ·have c : inB (gwp p) 0 (gwl G p).length = false:=by simpa using c
   rw [c]; exact W.lb rfl rfl (KB.refl _ _)
  ·have c : inB (gwp p) 0 (gwl G p).length = true:=by simpa using c
   have c2 : 0≤gwp p∧gwp p≤(gwl G p).length:=by unfold inB at c; simpa using c
   rw [c,w64i (by omega) (by omega)]
   refine W.bs l1In_run ?_
   ((try simp only [n1,n2,n3,n4,n5,n6] at d); (with_reducible repeat first|refine W.a1 d ?_|refine W.a2 ?_|refine W.a3 ?_|refine W.bo ?_|refine W.a5 d fun hw d lw kw=>?_|refine W.a6 d ?_|refine W.a7 ?_|refine W.a8 ?_))
   exact W.lb rfl (by simp) (KB.refl _ _)
 intro h2 d n2
 ((try simp only [n1,n2,n3,n4,n5,n6] at d); (with_reducible repeat first|refine W.a1 d ?_|refine W.a2 ?_|refine W.a3 ?_|refine W.bo ?_|refine W.a5 d fun hw d lw kw=>?_|refine W.a6 d ?_|refine W.a7 ?_|refine W.a8 ?_))
 refine W.ite (fun c=>?_) (fun c=>?_)
 ·have c : gwB G p n = false:=by simpa using c
  ((try simp only [n1,n2,n3,n4,n5,n6] at d); (with_reducible repeat first|refine W.a1 d ?_|refine W.a2 ?_|refine W.a3 ?_|refine W.bo ?_|refine W.a5 d fun hw d lw kw=>?_|refine W.a6 d ?_|refine W.a7 ?_|refine W.a8 ?_); (refine W.nD d fun h3 d _ kh3=>?_); (with_reducible repeat first|refine W.a1 d ?_|refine W.a2 ?_|refine W.a3 ?_|refine W.bo ?_|refine W.a5 d fun hw d lw kw=>?_|refine W.a6 d ?_|refine W.a7 ?_|refine W.a8 ?_))
  rw [c,show gws G p n = [] from by unfold gws; rw [if_neg (by rw [c]; decide)]]
  exact W.ret ⟨_,rfl,.inl rfl,d.kb,fun h=>by cases h⟩
 ·have c : gwB G p n = true:=by simpa using c
  have c2:=gwB_iff.1 c
  rw [w64i (n:=gwp p + n) (by omega) (by omega)]
  obtain ⟨ty,sl⟩:=(d.rs (i:=0) rfl : GnO base h2 oa ya G).part p
  refine W.ifT ⟨c2.1.1,by omega,by omega,ty.ok _⟩ (W.ret ⟨shiftA (gwa oa ya p) ((gwp p).toNat * 1),?_,?_,d.kb,fun _=>by rw [Nat.mul_one]⟩)
  ·have e1 : (gwp p + n).toNat - (gwp p).toNat = (gws G p n).length:=by have:=gws_len c; omega
   rw [e1,c]
  ·have e2 : gws G p n = ((gwl G p).drop (gwp p).toNat).take n.toNat:=by unfold gws; rw [if_pos c]
   rw [e2,Nat.mul_one,iv,List.map_take,List.map_drop]
   exact sl.part (by rw [iv_length]; omega)
end Go.Proofs.Ytkdenmdijdmnjaa.Am
set_option linter.unusedSimpArgs false
set_option linter.unusedVariables false
namespace Go.Proofs.Ytkdenmdijdmnjaa.Am
open Go Go.RowKit
def sz1 (G : Gn) (p : Int) : Int:=match gwd G p with
 | some n=>if inB n 0 1000 = true then n + 1 else 0
 | none=>0
def szW (G : Gn) (w : Int) : Int:=if tagW w = 5 then 2 else if tagW w = 4 ∨ tagW w = 6 then sz1 G (valW w) else 0
theorem sz1_le (G : Gn) (p : Int) : 0≤sz1 G p∧sz1 G p≤1001:=by
 unfold sz1
 split
 ·split
  ·rename_i n _ h
   unfold inB at h
   have h : 0≤n∧n≤1000:=by simpa using h
   omega
  ·omega
 ·omega
theorem szW_le (G : Gn) (w : Int) : 0≤szW G w∧szW G w≤1001:=by
 have:=sz1_le G (valW w)
 unfold szW
 split
 ·omega
 ·split <;> omega
theorem valW_ok {w : Int} (hw : wOk w) : wOk (valW w):=⟨by have:=valW_nn w; omega,by have:=valW_le hw; omega⟩
theorem l6Size_run {base : Nat} {h : AH} {oa ya : Option Addr} {G : Gn} {w : Int} (hG : G.Ok) (ho : G.old.length≤1000) (hw : wOk w) (x : GnO base h oa ya G) (hb : base≤h.length) :
  ∃ h',run (Et base) 186 [.agg (gensV oa ya G).toArray,.int .i64 w] h = some (.int .i64 (szW G w),h')∧KB NoB h h':=by
 have d:=x.inp hb
 suffices W : Wp (run (Et base) 186 [.agg (gensV oa ya G).toArray,.int .i64 w] h) fun o=>o.1 = .int .i64 (szW G w)∧KB NoB h o.2 by
  obtain ⟨⟨o1,o2⟩,e,y1,y2⟩:=W
  simp only at y1 y2
  subst y1
  exact ⟨o2,e,y2⟩
 refine W.of (fun r hx=>Am.r186 hx) ?_
 ((try simp only [n1,n2,n3,n4,n5,n6] at d); (with_reducible repeat first|refine W.a1 d ?_|refine W.a2 ?_|refine W.a3 ?_|refine W.bo ?_|refine W.a5 d fun hw d lw kw=>?_|refine W.a6 d ?_|refine W.a7 ?_|refine W.a8 ?_); (refine W.nD d fun h1 d _ kh1=>?_); (with_reducible repeat first|refine W.a1 d ?_|refine W.a2 ?_|refine W.a3 ?_|refine W.bo ?_|refine W.a5 d fun hw d lw kw=>?_|refine W.a6 d ?_|refine W.a7 ?_|refine W.a8 ?_))
 refine W.bs specTag_run ?_
 ((try simp only [n1,n2,n3,n4,n5,n6] at d); (with_reducible repeat first|refine W.a1 d ?_|refine W.a2 ?_|refine W.a3 ?_|refine W.bo ?_|refine W.a5 d fun hw d lw kw=>?_|refine W.a6 d ?_|refine W.a7 ?_|refine W.a8 ?_))
 refine W.ite (fun c5=>?_) (fun c5=>?_)
 ·have c5 : tagW w = 5:=by simpa using c5
  refine W.ret ⟨?_,d.kb⟩
  unfold szW; rw [if_pos c5]
 have c5 : ¬ tagW w = 5:=by simpa using c5
 apply W.jb (decide (tagW w = 4 ∨ tagW w = 6)) d
 ·refine W.ite (fun c=>?_) (fun c=>?_)
  ·have c : tagW w = 4:=by simpa using c
   exact W.lb rfl (by simp [c]) (KB.refl _ _)
  ·have c : ¬ tagW w = 4:=by simpa using c
   refine W.lb rfl ?_ (KB.refl _ _)
   by_cases c6 : tagW w = 6
   ·simp [c6]
   ·simp [c,c6]
 intro h2 d n2
 ((try simp only [n1,n2,n3,n4,n5,n6] at d); (with_reducible repeat first|refine W.a1 d ?_|refine W.a2 ?_|refine W.a3 ?_|refine W.bo ?_|refine W.a5 d fun hw d lw kw=>?_|refine W.a6 d ?_|refine W.a7 ?_|refine W.a8 ?_))
 refine W.ite (fun c=>?_) (fun c=>?_)
 ·have c : tagW w = 4 ∨ tagW w = 6:=by simpa using c
  have es : szW G w = sz1 G (valW w):=by unfold szW; rw [if_neg c5,if_pos c]
  rw [es]
  ((try simp only [n1,n2,n3,n4,n5,n6] at d); (with_reducible repeat first|refine W.a1 d ?_|refine W.a2 ?_|refine W.a3 ?_|refine W.bo ?_|refine W.a5 d fun hw d lw kw=>?_|refine W.a6 d ?_|refine W.a7 ?_|refine W.a8 ?_))
  refine W.bs (specVal_run hw.2) ?_
  ((try simp only [n1,n2,n3,n4,n5,n6] at d); (with_reducible repeat first|refine W.a1 d ?_|refine W.a2 ?_|refine W.a3 ?_|refine W.bo ?_|refine W.a5 d fun hw d lw kw=>?_|refine W.a6 d ?_|refine W.a7 ?_|refine W.a8 ?_))
  obtain ⟨a',h3,e3,s3,k3,_⟩:=l6Words_run (base:=base) (n:=1) hG (valW_ok hw) ⟨by omega,by omega⟩ (d.rs (i:=0) rfl : GnO base h2 oa ya G) d.ge
  refine W.bs e3 ?_
  have d:=d.kN k3
  ((try simp only [n1,n2,n3,n4,n5,n6] at d); (with_reducible repeat first|refine W.a1 d ?_|refine W.a2 ?_|refine W.a3 ?_|refine W.bo ?_|refine W.a5 d fun hw d lw kw=>?_|refine W.a6 d ?_|refine W.a7 ?_|refine W.a8 ?_))
  rw [gwB_one ho]
  refine W.joinP (fun q=>q.1 = [some (.slice a' (gws G (valW w) 1).length (gws G (valW w) 1).length),some (.bool (match gwd G (valW w) with|some n=>inB n 0 1000|none=>false))]∧q.2 = h3) ?_ fun q hq=>?_
  ·refine W.ite (fun c1=>?_) (fun c1=>?_)
   ·obtain ⟨n,e⟩:=Option.isSome_iff_exists.1 c1
    have e1:=gws_one ho e
    rw [e1] at s3 ⊢
    refine W.ifT (by simp) ?_
    obtain ⟨ad,rfl,g⟩:=s3.int (i:=0) (by simp)
    refine W.bs rfl (W.bs g ?_)
    refine W.bs l1In_run ?_
    ((try simp only [n1,n2,n3,n4,n5,n6] at d); (with_reducible repeat first|refine W.a1 d ?_|refine W.a2 ?_|refine W.a3 ?_|refine W.bo ?_|refine W.a5 d fun hw d lw kw=>?_|refine W.a6 d ?_|refine W.a7 ?_|refine W.a8 ?_))
    refine W.inl ⟨?_,rfl⟩
    rw [e]; rfl
   ·have c1 : gwd G (valW w) = none:=by simpa using c1
    refine W.inl ⟨?_,rfl⟩
    rw [c1]
  obtain ⟨q1,q2⟩:=q
  obtain ⟨e,e2⟩:=hq
  simp only at e e2
  subst e; subst e2
  ((try simp only [n1,n2,n3,n4,n5,n6] at d); (with_reducible repeat first|refine W.a1 d ?_|refine W.a2 ?_|refine W.a3 ?_|refine W.bo ?_|refine W.a5 d fun hw d lw kw=>?_|refine W.a6 d ?_|refine W.a7 ?_|refine W.a8 ?_))
  unfold sz1
  cases e : gwd G (valW w) with
  | none=>exact W.ifF (by decide) (W.ret ⟨rfl,d.kb⟩)
  | some n=>
   simp only
   cases e2 : inB n 0 1000 with
   | false=>exact W.ifF (by decide) (W.ret ⟨rfl,d.kb⟩)
   | true=>
    have hn : 0≤n∧n≤1000:=by unfold inB at e2; simpa using e2
    refine W.ifT rfl ?_
    have e1:=gws_one ho e
    rw [e1] at s3 ⊢
    refine W.ifT (by simp) ?_
    obtain ⟨ad,rfl,g⟩:=s3.int (i:=0) (by simp)
    refine W.bs rfl (W.bs g ?_)
    refine W.ret ⟨?_,d.kb⟩
    simp only [List.getElem_cons_zero]
    rw [w64i (by omega) (by omega)]
    rfl
 ·have c : ¬ (tagW w = 4 ∨ tagW w = 6):=by simpa using c
  refine W.ret ⟨?_,d.kb⟩
  unfold szW; rw [if_neg c5,if_neg c]
end Go.Proofs.Ytkdenmdijdmnjaa.Am
set_option linter.unusedSimpArgs false
set_option linter.unusedVariables false
namespace Go.Proofs.Ytkdenmdijdmnjaa.Am
open Go Go.RowKit
abbrev rdV (oa ya : Option Addr) (G : Gn) (aa : Option Addr) (n : Nat) (left : Int) (b : Bool) : List Value:=[.slice oa G.old.length G.old.length,.slice ya G.young.length G.young.length,.int .i64 G.mark,.slice aa n n,.int .i64 left,.bool b]
theorem mkW_ok (t v : Int) : wOk (mkW t v):=by
 unfold mkW inB wOk
 split
 ·rename_i h1
  split
  ·rename_i h2
   simp only [Bool.and_eq_true,decide_eq_true_eq] at h1 h2
   omega
  ·omega
 ·omega
theorem szW_mk {G : Gn} (hG : G.Ok) {t p : Int} (ht : t = 4 ∨ t = 6) (hp : 0≤p) : szW G (mkW t p) = sz1 G p:=by
 by_cases c : p≤4000000
 ·have e : mkW t p = t + 8 * p:=by
   unfold mkW inB
   rw [if_pos (by simp; omega),if_pos (by simp; omega)]
  have e1 : tagW (t + 8 * p) = t:=by unfold tagW; rw [if_neg (by omega)]; omega
  have e2 : valW (t + 8 * p) = p:=by unfold valW; rw [if_neg (by omega)]; omega
  rw [e]
  unfold szW
  rw [e1,e2,if_neg (by omega),if_pos (by omega)]
 ·have e : mkW t p = 0:=by
   unfold mkW inB
   rw [if_pos (by simp; omega),if_neg (by simp; omega)]
  rw [e]
  have e3 : gwd G p = none:=by
   cases e : gwd G p with
   | none=>rfl
   | some v=>have:=(gwd_ok hG e).2; omega
  unfold sz1
  rw [e3]
  rfl
def bnL (L : List Int) : Option (List Int):=if L.all (fun x=>inB x 0 255) = true then some L else none
theorem bnL_cons (x : Int) (L : List Int) : bnL (x :: L) = if inB x 0 255 = true then (bnL L).bind fun y=>some (x :: y) else none:=by
 unfold bnL
 cases h1 : inB x 0 255 with
 | false=>rw [if_neg (by simp [h1])]; rfl
 | true=>
  cases h2 : L.all (fun x=>inB x 0 255) with
  | false=>rw [if_neg (by simp [h1,h2])]; rfl
  | true=>rw [if_pos (by simp only [List.all_cons,h1,h2]; rfl)]; rfl
theorem rdB_words {G : Gn} : ∀ (L : List Int) (p : Int),(∀ i (hi : i < L.length),gwd G (p + (i : Int)) = some L[i])→rdB G L.length p = bnL L
 | [],p,_=>rfl
 | x :: L,p,h=>by
  have h0:=h 0 (by simp)
  rw [show p + ((0 : Nat) : Int) = p from by omega] at h0
  rw [List.length_cons,rdB,h0,bnL_cons]
  simp only [Option.bind_some,List.getElem_cons_zero]
  rw [rdB_words L (p + 1) fun i hi=>by
   have:=h (i + 1) (by simp; omega)
   rw [show p + 1 + (i : Int) = p + ((i + 1 : Nat) : Int) from by omega]
   simpa using this]
theorem rdB_none {G : Gn} : ∀ (n : Nat) (p : Int) (i : Nat),i < n→gwd G (p + (i : Int)) = none→rdB G n p = none
 | 0,p,i,hi,_=>by omega
 | n + 1,p,0,hi,e=>by
  rw [show p + ((0 : Nat) : Int) = p from by omega] at e
  rw [rdB,e]; rfl
 | n + 1,p,i + 1,hi,e=>by
  rw [rdB]
  cases e1 : gwd G p with
  | none=>rfl
  | some w=>
   rw [show p + ((i + 1 : Nat) : Int) = p + 1 + (i : Int) from by omega] at e
   simp only [Option.bind_some]
   rw [rdB_none n (p + 1) i (by omega) e]
   split <;> rfl
theorem u8_map {L : List Int} (h : L.all (fun x=>inB x 0 255) = true) : L.map (IntKind.wrap .u8) = L:=by
 induction L with
 | nil=>rfl
 | cons x L ih=>
  simp only [List.all_cons,Bool.and_eq_true] at h
  have : 0≤x∧x≤255:=by unfold inB at h; simpa using h.1
  rw [List.map_cons,ih h.2,IntWalk.u8_in x ⟨this.1,this.2⟩]
theorem l6Bin_loop {base rb zb : Nat} {G : Gn} {oa ya aa a' : Option Addr} {na : Nat} {left : Int} {L : List Int} {m : Bool} {S V : Fp} {A : AH→Prop} {h0 : AH} (hL : L.length≤41) (hA : ∀ y,A y→Sl y a' (iv .i64 L)) : ∀ (r i : Nat) (h : AH) (l : List Int) (ao : Option Addr) (b : Bool) (S2 : Fp),i + r = L.length→l.length≤i→(∀ x,blk ao x→S2 x)→Hs base V h0 h [(zb,42,termV 0 0 ⟨#[]⟩ none 0),(rb,181,rdV oa ya G aa na left b)] [⟨S,m,A⟩,rBs base S2 l ao] →
  Wp (loopL (B199_0 base) [some (.pointer (at0 rb)),some (.pointer (at0 zb)),some (.slice a' L.length L.length),some (.slice ao l.length l.length),some (.int .i64 (i : Int))] h) fun o=>∃ l' a2 S',o.1 = 2∧o.2.1 = [some (.pointer (at0 zb)),some (.slice a2 l'.length l'.length)]∧l' = l ++ (L.drop i).map (IntKind.wrap .u8)∧Hs base V h0 o.2.2 [(zb,42,termV 0 0 ⟨#[]⟩ none 0),(rb,181,rdV oa ya G aa na left (b || !(L.drop i).all (fun x=>inB x 0 255)))] [⟨S,m,A⟩,rBs base S' l' a2]:=by
 intro r
 induction r with
 | zero=>
  intro i h l ao b S2 hi hl hS d
  suffices w : Wp (B199_0 base [some (.pointer (at0 rb)),some (.pointer (at0 zb)),some (.slice a' L.length L.length),some (.slice ao l.length l.length),some (.int .i64 (i : Int))] h) fun o=>o = (2,[some (.pointer (at0 zb)),some (.slice ao l.length l.length)],h) by
   obtain ⟨o,e,rfl⟩:=w
   refine ⟨_,loop_off (by decide) e,l,ao,S2,rfl,rfl,?_,?_⟩
   ·rw [List.drop_of_length_le (by omega)]; simp
   ·rw [List.drop_of_length_le (by omega)]; simpa using d
  rw [B199_0_eq]
  exact W.ifF (by simp; omega) (W.ret rfl)
 | succ r ihr=>
  intro i h l ao b S2 hi hl hS d
  have hlt : i < L.length:=by omega
  suffices w : Wp (B199_0 base [some (.pointer (at0 rb)),some (.pointer (at0 zb)),some (.slice a' L.length L.length),some (.slice ao l.length l.length),some (.int .i64 (i : Int))] h) fun o=>∃ a2 S',o.1 = 0∧o.2.1 = [some (.pointer (at0 rb)),some (.pointer (at0 zb)),some (.slice a' L.length L.length),some (.slice a2 (l.length + 1) (l.length + 1)),some (.int .i64 ((i : Int) + 1))]∧(∀ x,blk a2 x→S' x)∧Hs base V h0 o.2.2 [(zb,42,termV 0 0 ⟨#[]⟩ none 0),(rb,181,rdV oa ya G aa na left (b || !inB L[i] 0 255))] [⟨S,m,A⟩,rBs base S' (l ++ [IntKind.wrap .u8 L[i]]) a2] by
   obtain ⟨⟨o1,o2,h'⟩,e,a2,S',y1,y2,hS',d'⟩:=w
   simp only at y1 y2 d'
   subst y1; subst y2
   have el : (l ++ [IntKind.wrap .u8 L[i]]).length = l.length + 1:=by simp
   have q:=ihr (i + 1) h' (l ++ [IntKind.wrap .u8 L[i]]) a2 _ S' (by omega) (by omega) hS' d'
   rw [el] at q
   obtain ⟨o,eo,l2,a3,S3,z1,z2,z3,z4⟩:=q
   have ed : L.drop i = L[i] :: L.drop (i + 1):=List.drop_eq_getElem_cons hlt
   refine ⟨o,loop_on e eo,l2,a3,S3,z1,z2,?_,?_⟩
   ·rw [z3,ed,List.map_cons,List.append_assoc]; rfl
   ·rw [ed,List.all_cons,Bool.not_and,← Bool.or_assoc]; exact z4
  rw [B199_0_eq]
  refine W.ifT (decide_eq_true (by omega)) ?_
  obtain ⟨ad,ea,g⟩:=(hA _ (d.rs (i:=0) rfl)).int hlt
  subst ea
  refine W.joinP (fun q=>q.1 = [some (.pointer (at0 rb)),some (.pointer (at0 zb)),some (.slice (some ad) L.length L.length),some (.slice ao l.length l.length),some (.int .i64 (i : Int))]∧Hs base V h0 q.2 [(zb,42,termV 0 0 ⟨#[]⟩ none 0),(rb,181,rdV oa ya G aa na left (b || !inB L[i] 0 255))] [⟨S,m,A⟩,rBs base S2 l ao]) ?_ fun q hq=>?_
  ·((try simp only [n1,n2,n3,n4,n5,n6] at d); (with_reducible repeat first|refine W.a1 d ?_|refine W.a2 ?_|refine W.a3 ?_|refine W.bo ?_|refine W.a5 d fun hw d lw kw=>?_|refine W.a6 d ?_|refine W.a7 ?_|refine W.a8 ?_))
   refine W.ite (fun c=>?_) (fun c=>?_)
   ·rw [c] at d
    ((try simp only [n1,n2,n3,n4,n5,n6] at d); (with_reducible repeat first|refine W.a1 d ?_|refine W.a2 ?_|refine W.a3 ?_|refine W.bo ?_|refine W.a5 d fun hw d lw kw=>?_|refine W.a6 d ?_|refine W.a7 ?_|refine W.a8 ?_))
    rw [c]
    exact W.inl ⟨rfl,d⟩
   ·have c : b = false:=by simpa using c
    refine W.ifT (by omega) (W.bs rfl ?_)
    refine W.bs (by rw [show Int.toNat (i : Int) * 1 = i from by simp]; exact g) ?_
    refine W.bs l1In_run ?_
    ((try simp only [n1,n2,n3,n4,n5,n6] at d); (with_reducible repeat first|refine W.a1 d ?_|refine W.a2 ?_|refine W.a3 ?_|refine W.bo ?_|refine W.a5 d fun hw d lw kw=>?_|refine W.a6 d ?_|refine W.a7 ?_|refine W.a8 ?_))
    rw [c]
    exact W.inl ⟨rfl,d⟩
  obtain ⟨q1,h2⟩:=q
  obtain ⟨e,d⟩:=hq
  simp only at e d
  subst e
  ((try simp only [n1,n2,n3,n4,n5,n6] at d); (with_reducible repeat first|refine W.a1 d ?_|refine W.a2 ?_|refine W.a3 ?_|refine W.bo ?_|refine W.a5 d fun hw d lw kw=>?_|refine W.a6 d ?_|refine W.a7 ?_|refine W.a8 ?_))
  obtain ⟨ad',ea,g⟩:=(hA _ (d.rs (i:=0) rfl)).int hlt
  injection ea with ea
  subst ea
  refine W.bs (by rw [show Int.toNat (i : Int) * 1 = i from by simp]; exact g) ?_
  ((try simp only [n1,n2,n3,n4,n5,n6] at d); (with_reducible repeat first|refine W.a1 d ?_|refine W.a2 ?_|refine W.a3 ?_|refine W.bo ?_|refine W.a5 d fun hw d lw kw=>?_|refine W.a6 d ?_|refine W.a7 ?_|refine W.a8 ?_); (refine W.nD d fun h3 d _ kh3=>?_); (with_reducible repeat first|refine W.a1 d ?_|refine W.a2 ?_|refine W.a3 ?_|refine W.bo ?_|refine W.a5 d fun hw d lw kw=>?_|refine W.a6 d ?_|refine W.a7 ?_|refine W.a8 ?_))
  obtain ⟨a5,h5,e5,d,q5,k5,_⟩:=d.app1O (w:=1) (i:=1) (n:=l.length) (bytes:=1) rfl hS (.head _) rfl (by decide) (by simp) rfl (by omega) (by omega)
  refine W.bs e5 ?_
  ((try simp only [n1,n2,n3,n4,n5,n6] at d); (with_reducible repeat first|refine W.a1 d ?_|refine W.a2 ?_|refine W.a3 ?_|refine W.bo ?_|refine W.a5 d fun hw d lw kw=>?_|refine W.a6 d ?_|refine W.a7 ?_|refine W.a8 ?_))
  rw [w64i (n:=(i : Int) + 1) (by omega) (by omega)]
  have d:=d.tl
  rw [show iv .u8 l ++ [Value.int .u8 (IntKind.wrap .u8 L[i])] = iv .u8 (l ++ [IntKind.wrap .u8 L[i]]) from by rw [← iv_append]; rfl] at d
  exact W.ret ⟨a5,_,rfl,rfl,fun x hx=>hx,d⟩
theorem l6Bin_run {base rb f : Nat} {G : Gn} {oa ya aa : Option Addr} {ats : List ByteArray} {p left : Int} {m : Bool} {S V : Fp} {A : AH→Prop} {h0 h : AH} (hG : G.Ok) (ho : G.old.length≤1000) (hp : 0≤p∧wOk p) (hA : ∀ y,A y→RdA base oa ya G aa ats y) (d : Hs base V h0 h [(rb,181,rdV oa ya G aa ats.length left false)] [⟨S,m,A⟩]) :
  Wp (run (Et base) 199 [.pointer (at0 rb),.int .i64 p] h) fun o=>∃ t cs' S' b',o.1 = .agg cs'.toArray∧Hs base V h0 o.2 [(rb,181,rdV oa ya G aa ats.length left b')] [⟨S,m,A⟩,⟨S',true,fun y=>TmG base (f + 1) S' y t cs'⟩]∧(match (gwd G p).bind fun n=>if inB n 0 40 = true then (rdB G n.toNat (p + 1)).bind fun y=>some (Tm.mk 6 0 (bstr y) []) else none with
   | some y=>t = y∧b' = false
   | none=>b' = true):=by
 refine W.of (fun r hx=>Am.r199 hx) ?_
 ((try simp only [n1,n2,n3,n4,n5,n6] at d); (with_reducible repeat first|refine W.a1 d ?_|refine W.a2 ?_|refine W.a3 ?_|refine W.bo ?_|refine W.a5 d fun hw d lw kw=>?_|refine W.a6 d ?_|refine W.a7 ?_|refine W.a8 ?_); (refine W.nD d fun h1 d _ kh1=>?_); (with_reducible repeat first|refine W.a1 d ?_|refine W.a2 ?_|refine W.a3 ?_|refine W.bo ?_|refine W.a5 d fun hw d lw kw=>?_|refine W.a6 d ?_|refine W.a7 ?_|refine W.a8 ?_))
 refine W.bs specMk_run ?_
 ((try simp only [n1,n2,n3,n4,n5,n6] at d); (with_reducible repeat first|refine W.a1 d ?_|refine W.a2 ?_|refine W.a3 ?_|refine W.bo ?_|refine W.a5 d fun hw d lw kw=>?_|refine W.a6 d ?_|refine W.a7 ?_|refine W.a8 ?_))
 obtain ⟨h2,e2,k2⟩:=l6Size_run (base:=base) (w:=mkW 6 p) hG ho (mkW_ok _ _) (hA _ (d.rs (i:=0) rfl)).gnO d.ge
 refine W.bs e2 ?_
 have d:=d.kN k2
 rw [szW_mk hG (.inr rfl) hp.1]
 have hz:=sz1_le G p
 ((try simp only [n1,n2,n3,n4,n5,n6] at d); (with_reducible repeat first|refine W.a1 d ?_|refine W.a2 ?_|refine W.a3 ?_|refine W.bo ?_|refine W.a5 d fun hw d lw kw=>?_|refine W.a6 d ?_|refine W.a7 ?_|refine W.a8 ?_))
 rw [w64i (n:=sz1 G p - 1) (by omega) (by omega),w64i (n:=sz1 G p - 1 + 1) (by omega) (by omega),show sz1 G p - 1 + 1 = sz1 G p from by omega]
 obtain ⟨a',h3,e3,s3,k3,x3⟩:=l6Words_run (base:=base) (p:=p) (n:=sz1 G p) hG hp.2 ⟨by omega,by omega⟩ (hA _ (d.rs (i:=0) rfl)).gnO d.ge
 refine W.bs e3 ?_
 have d:=d.kN k3
 ((try simp only [n1,n2,n3,n4,n5,n6] at d); (with_reducible repeat first|refine W.a1 d ?_|refine W.a2 ?_|refine W.a3 ?_|refine W.bo ?_|refine W.a5 d fun hw d lw kw=>?_|refine W.a6 d ?_|refine W.a7 ?_|refine W.a8 ?_))
 apply W.jb (!(inB (sz1 G p - 1) 0 40 && gwB G p (sz1 G p))) d
 ·refine W.bs l1In_run ?_
  ((try simp only [n1,n2,n3,n4,n5,n6] at d); (with_reducible repeat first|refine W.a1 d ?_|refine W.a2 ?_|refine W.a3 ?_|refine W.bo ?_|refine W.a5 d fun hw d lw kw=>?_|refine W.a6 d ?_|refine W.a7 ?_|refine W.a8 ?_))
  refine W.ite (fun c=>?_) (fun c=>?_)
  ·have c : inB (sz1 G p - 1) 0 40 = false:=by simpa using c
   rw [c]; exact W.lb rfl rfl (KB.refl _ _)
  ·have c : inB (sz1 G p - 1) 0 40 = true:=by simpa using c
   rw [c]; exact W.lb rfl (by simp) (KB.refl _ _)
 intro h4 d n4
 ((try simp only [n1,n2,n3,n4,n5,n6] at d); (with_reducible repeat first|refine W.a1 d ?_|refine W.a2 ?_|refine W.a3 ?_|refine W.bo ?_|refine W.a5 d fun hw d lw kw=>?_|refine W.a6 d ?_|refine W.a7 ?_|refine W.a8 ?_))
 refine W.ite (fun c=>?_) (fun c=>?_)
 ·((try simp only [n1,n2,n3,n4,n5,n6] at d); (with_reducible repeat first|refine W.a1 d ?_|refine W.a2 ?_|refine W.a3 ?_|refine W.bo ?_|refine W.a5 d fun hw d lw kw=>?_|refine W.a6 d ?_|refine W.a7 ?_|refine W.a8 ?_))
  have d:=(d.tl).call (KB.refl NoB _) (fun _=>False) (fun y=>TmG base (f + 1) (fun _=>False) y tmZ (termV 0 0 ⟨#[]⟩ none 0)) tmZ_G (fun U y y' k hs x=>TmG.kp _ _ _ U y y' _ _ k hs x) (fun _ h=>h.elim)
  refine W.ret ⟨tmZ,termV 0 0 ⟨#[]⟩ none 0,_,true,rfl,d,?_⟩
  cases e1 : gwd G p with
  | none=>rfl
  | some n=>
   simp only [Option.bind_some]
   by_cases hn : inB n 0 40 = true
   ·rw [if_pos hn]
    have hn2 : 0≤n∧n≤40:=by unfold inB at hn; simpa using hn
    have es : sz1 G p = n + 1:=by
     unfold sz1; rw [e1]; simp only
     rw [if_pos (by unfold inB; simp; omega)]
    rw [es,show n + 1 - 1 = n from by omega,hn,Bool.true_and] at c
    have c : gwB G p (n + 1) = false:=by simpa using c
    obtain ⟨i,hi,e⟩:=gws_no ho (by omega) c
    cases i with
    | zero=>rw [show p + ((0 : Nat) : Int) = p from by omega,e1] at e; cases e
    | succ i=>
     rw [rdB_none n.toNat (p + 1) i (by omega) (by rw [show p + 1 + (i : Int) = p + ((i + 1 : Nat) : Int) from by omega]; exact e)]
     simp
   ·rw [if_neg hn]; simp
 ·have c : inB (sz1 G p - 1) 0 40 = true∧gwB G p (sz1 G p) = true:=by simpa using c
  obtain ⟨c1,c2⟩:=c
  have c3 : 0≤sz1 G p - 1∧sz1 G p - 1≤40:=by unfold inB at c1; simpa using c1
  have hlen:=gws_len c2
  have ea:=x3 c2
  subst ea
  ((try simp only [n1,n2,n3,n4,n5,n6] at d); (with_reducible repeat first|refine W.a1 d ?_|refine W.a2 ?_|refine W.a3 ?_|refine W.bo ?_|refine W.a5 d fun hw d lw kw=>?_|refine W.a6 d ?_|refine W.a7 ?_|refine W.a8 ?_); (refine W.nD d fun h5 d _ kh5=>?_); (with_reducible repeat first|refine W.a1 d ?_|refine W.a2 ?_|refine W.a3 ?_|refine W.bo ?_|refine W.a5 d fun hw d lw kw=>?_|refine W.a6 d ?_|refine W.a7 ?_|refine W.a8 ?_))
  have d:=d.unbox (Del.at (i:=0) rfl)
  simp only [n5,n6] at d
  refine W.wb (l6Bin_loop (base:=base) (L:=gws G p (sz1 G p)) (A:=A) (by omega) (fun y hy=>(hA y hy).gnO.sl c2) ((sz1 G p - 1).toNat) 1 h5 [] _ false _ (by omega) (by simp) (fun x hx=>by obtain ⟨ad,e,e2⟩:=hx; injection e with e; subst e; exact e2.symm) d) ?_
  rintro ⟨o1,o2,h6⟩ ⟨l',a2,S',z1,z2,z3,z4⟩
  simp only at z1 z2 z4
  subst z1; subst z2
  refine W.ifT rfl ?_
  ((try simp only [n1,n2,n3,n4,n5,n6] at d); (with_reducible repeat first|refine W.a1 d ?_|refine W.a2 ?_|refine W.a3 ?_|refine W.bo ?_|refine W.a5 d fun hw d lw kw=>?_|refine W.a6 d ?_|refine W.a7 ?_|refine W.a8 ?_))
  have hr : (rawAt h6 a2 l'.length).bind u8s = some l':=raw_iv (Own.sl (z4.rs (i:=1) rfl))
  refine W.bs hr ?_
  have d:=z4
  have hl40 : l'.length≤40:=by rw [z3]; simp; omega
  have hsz : (bstr l').size≤maxLen:=by rw [bstr_size]; exact Nat.le_trans hl40 (by decide)
  ((try simp only [n1,n2,n3,n4,n5,n6] at d); (with_reducible repeat first|refine W.a1 d ?_|refine W.a2 ?_|refine W.a3 ?_|refine W.bo ?_|refine W.a5 d fun hw d lw kw=>?_|refine W.a6 d ?_|refine W.a7 ?_|refine W.a8 ?_))
  have d:=(((d.tl).takeR 1)).call (KB.refl NoB _) (fun _=>False) (fun y=>TmG base (f + 1) (fun _=>False) y (.mk 6 0 (bstr l') []) (termV 6 0 (bstr l') none 0)) ⟨hsz,by decide,none,rfl,RowO.nil⟩ (fun U y y' k hs x=>TmG.kp _ _ _ U y y' _ _ k hs x) (fun _ h=>h.elim)
  refine W.ret ⟨.mk 6 0 (bstr l') [],termV 6 0 (bstr l') none 0,_,_,rfl,d,?_⟩
  obtain ⟨n,e1⟩ : ∃ n,gwd G p = some n:=by
   cases e : gwd G p with
   | some n=>exact ⟨n,rfl⟩
   | none=>exfalso; unfold sz1 at c3; rw [e] at c3; simp only at c3; omega
  have hn : 0≤n∧n≤40∧sz1 G p = n + 1:=by
   unfold sz1 at c3 ⊢
   rw [e1] at c3 ⊢
   simp only at c3 ⊢
   split at c3
   ·rename_i hh
    rw [if_pos hh]
    omega
   ·omega
  rw [e1]
  simp only [Option.bind_some]
  rw [if_pos (by unfold inB; simp; omega)]
  have hw:=fun (i : Nat) (hi : i < (gws G p (sz1 G p)).length)=>gws_at ho c2 hi
  cases hh : gws G p (sz1 G p) with
  | nil=>rw [hh] at hlen; simp at hlen; omega
  | cons x L=>
   rw [hh] at hlen z3
   simp only [List.length_cons,List.drop_succ_cons,List.drop_zero,List.nil_append] at hlen z3
   have hLn : n.toNat = L.length:=by omega
   have hd : rdB G L.length (p + 1) = bnL L:=rdB_words L (p + 1) fun i hi=>by
    have:=hw (i + 1) (by rw [hh]; simp; omega)
    rw [show p + 1 + (i : Int) = p + ((i + 1 : Nat) : Int) from by omega,this]
    simp only [hh,List.getElem_cons_succ]
   rw [hLn,hd]
   unfold bnL
   simp only [Bool.false_or,List.drop_succ_cons,List.drop_zero]
   cases ha : L.all (fun x=>inB x 0 255) with
   | true=>
    rw [if_pos rfl]
    rw [z3,u8_map ha]
    exact ⟨rfl,rfl⟩
   | false=>
    rw [if_neg (by decide)]
    simp
end Go.Proofs.Ytkdenmdijdmnjaa.Am
set_option linter.unusedSimpArgs false
set_option linter.unusedVariables false
namespace Go.Proofs.Ytkdenmdijdmnjaa.Am
open Go Go.RowKit
def GetS (base : Nat) (oa ya : Option Addr) (G : Gn) (aa : Option Addr) (ats : List ByteArray) (f : Nat) : Prop:=∀ (rb : Nat) (w c : Int) (m : Bool) (S V : Fp) (A : AH→Prop) (h0 h : AH),wOk w→(0≤c∧c≤100)→(∀ y,A y→RdA base oa ya G aa ats y)→Hs base V h0 h [(rb,181,rdV oa ya G aa ats.length (100 - c) false)] [⟨S,m,A⟩] →
 Wp (run (Et base) 162 [.pointer (at0 rb),.int .i64 w,.int .i64 (f : Int)] h) fun o=>∃ t cs' S' c' b',o.1 = .agg cs'.toArray∧Hs base V h0 o.2 [(rb,181,rdV oa ya G aa ats.length (100 - c') b')] [⟨S,m,A⟩,⟨S',true,fun y=>TmG base (f + 1) S' y t cs'⟩]∧OutT false (rdT chkT G ats f w c) t c' b'
theorem l6Tuple_loop {base rb tb zb f : Nat} {G : Gn} {oa ya aa a' : Option Addr} {ats : List ByteArray} {p : Int} {L : List Int} {m : Bool} {S V : Fp} {A : AH→Prop} {h0 : AH} (hG : G.Ok) (hL : L.length≤9) (hf : f≤6) (hA : ∀ y,A y→RdA base oa ya G aa ats y) (hS : ∀ y,A y→Sl y a' (iv .i64 L)) (hW : ∀ (i : Nat) (hi : i < L.length),gwd G (p + (i : Int)) = some L[i]) (ih : GetS base oa ya G aa ats f) : ∀ (r : Nat) (h : AH) (l : List Tm) (ao : Option Addr) (c : Int) (b : Bool) (S2 : Fp),l.length + 1 + r = L.length→(b = false→0≤c∧c≤100)→Hs base V h0 h [(rb,181,rdV oa ya G aa ats.length (100 - c) b),(tb,42,termV 4 0 ⟨#[]⟩ ao l.length),(zb,42,termV 0 0 ⟨#[]⟩ none 0)] [⟨S,m,A⟩,rTs base (f + 1) S2 l ao] →
  Wp (loopL (B198_0 base) [some (.pointer (at0 rb)),some (.int .i64 ((f : Int) + 1)),some (.pointer (at0 zb)),some (.slice a' L.length L.length),some (.pointer (at0 tb)),some (.int .i64 ((l.length : Int) + 1))] h) fun o=>∃ l' a2 c' b' S',o.1 = 2∧o.2.1 = [some (.pointer (at0 zb)),some (.pointer (at0 tb))]∧l'.length≤L.length∧Hs base V h0 o.2.2 [(rb,181,rdV oa ya G aa ats.length (100 - c') b'),(tb,42,termV 4 0 ⟨#[]⟩ a2 l'.length),(zb,42,termV 0 0 ⟨#[]⟩ none 0)] [⟨S,m,A⟩,rTs base (f + 1) S' l' a2]∧OutL b (rdS G (rdT chkT G ats f) r (p + 1 + l.length) c) l l' c' b':=by
 intro r
 induction r with
 | zero=>
  intro h l ao c b S2 hl hcb d
  suffices w : Wp (B198_0 base [some (.pointer (at0 rb)),some (.int .i64 ((f : Int) + 1)),some (.pointer (at0 zb)),some (.slice a' L.length L.length),some (.pointer (at0 tb)),some (.int .i64 ((l.length : Int) + 1))] h) fun o=>o = (2,[some (.pointer (at0 zb)),some (.pointer (at0 tb))],h) by
   obtain ⟨o,e,rfl⟩:=w
   refine ⟨_,loop_off (by decide) e,l,ao,c,b,S2,rfl,rfl,by omega,d,?_⟩
   unfold OutL
   split
   ·rename_i hb; exact hb
   ·rename_i hb; exact ⟨by simp [rdS],rfl,by simpa using hb⟩
  rw [B198_0_eq]
  refine W.join (W.ifF (by simp; omega) (W.il ?_))
  ((try simp only [n1,n2,n3,n4,n5,n6] at d); (with_reducible repeat first|refine W.a1 d ?_|refine W.a2 ?_|refine W.a3 ?_|refine W.bo ?_|refine W.a5 d fun hw d lw kw=>?_|refine W.a6 d ?_|refine W.a7 ?_|refine W.a8 ?_))
  exact W.ifF (by decide) (W.ret rfl)
 | succ r ihr=>
  intro h l ao c b S2 hl hcb d
  cases b with
  | true=>
   suffices w : Wp (B198_0 base [some (.pointer (at0 rb)),some (.int .i64 ((f : Int) + 1)),some (.pointer (at0 zb)),some (.slice a' L.length L.length),some (.pointer (at0 tb)),some (.int .i64 ((l.length : Int) + 1))] h) fun o=>o = (2,[some (.pointer (at0 zb)),some (.pointer (at0 tb))],h) by
    obtain ⟨o,e,rfl⟩:=w
    exact ⟨_,loop_off (by decide) e,l,ao,c,true,S2,rfl,rfl,by omega,d,rfl⟩
   rw [B198_0_eq]
   refine W.join (W.ifT (decide_eq_true (by omega)) ?_)
   ((try simp only [n1,n2,n3,n4,n5,n6] at d); (with_reducible repeat first|refine W.a1 d ?_|refine W.a2 ?_|refine W.a3 ?_|refine W.bo ?_|refine W.a5 d fun hw d lw kw=>?_|refine W.a6 d ?_|refine W.a7 ?_|refine W.a8 ?_))
   refine W.il ?_
   ((try simp only [n1,n2,n3,n4,n5,n6] at d); (with_reducible repeat first|refine W.a1 d ?_|refine W.a2 ?_|refine W.a3 ?_|refine W.bo ?_|refine W.a5 d fun hw d lw kw=>?_|refine W.a6 d ?_|refine W.a7 ?_|refine W.a8 ?_))
   exact W.ifF (by decide) (W.ret rfl)
  | false=>
   have hcc:=hcb rfl
   have hlt : l.length + 1 < L.length:=by omega
   have ew:=hW (l.length + 1) hlt
   rw [show p + ((l.length + 1 : Nat) : Int) = p + 1 + (l.length : Int) from by omega] at ew
   have hwk:=(gwd_ok hG ew).1
   suffices w : Wp (B198_0 base [some (.pointer (at0 rb)),some (.int .i64 ((f : Int) + 1)),some (.pointer (at0 zb)),some (.slice a' L.length L.length),some (.pointer (at0 tb)),some (.int .i64 ((l.length : Int) + 1))] h) fun o=>∃ t a2 c' b' S',o.1 = 0∧o.2.1 = [some (.pointer (at0 rb)),some (.int .i64 ((f : Int) + 1)),some (.pointer (at0 zb)),some (.slice a' L.length L.length),some (.pointer (at0 tb)),some (.int .i64 ((l.length : Int) + 1 + 1))]∧Hs base V h0 o.2.2 [(rb,181,rdV oa ya G aa ats.length (100 - c') b'),(tb,42,termV 4 0 ⟨#[]⟩ a2 (l.length + 1)),(zb,42,termV 0 0 ⟨#[]⟩ none 0)] [⟨S,m,A⟩,rTs base (f + 1) S' (l ++ [t]) a2]∧OutT false (rdT chkT G ats f L[l.length + 1] c) t c' b' by
    obtain ⟨⟨o1,o2,h'⟩,e,t,a2,c',b',S',y1,y2,d',ho⟩:=w
    simp only at y1 y2 d'
    subst y1; subst y2
    have el : (l ++ [t]).length = l.length + 1:=by simp
    have hcb' : b' = false→0≤c'∧c'≤100:=by
     intro eb
     cases e2 : rdT chkT G ats f L[l.length + 1] c with
     | none=>simp [OutT,e2] at ho; rw [ho] at eb; cases eb
     | some y=>
      simp only [OutT,e2,Bool.false_eq_true,if_false] at ho
      rw [ho.2.1]
      exact rdT_le f _ c y e2 (hcb rfl).1
    have q:=ihr h' (l ++ [t]) a2 c' b' S' (by omega) hcb' (by rw [el]; exact d')
    rw [el] at q
    obtain ⟨o,eo,l2,a3,c2,b2,S3,z1,z2,z3,z4,z5⟩:=q
    refine ⟨o,loop_on e eo,l2,a3,c2,b2,S3,z1,z2,z3,z4,?_⟩
    simp only [OutT,OutL,rdS,Bool.false_eq_true,if_false] at ho z5 ⊢
    rw [ew]
    simp only [Option.bind_some]
    cases e2 : rdT chkT G ats f L[l.length + 1] c with
    | none=>
     rw [e2] at ho
     simp only [Option.bind_none] at ho ⊢
     rw [if_pos ho] at z5
     exact z5
    | some y=>
     rw [e2] at ho
     simp only [Option.bind_some] at ho ⊢
     obtain ⟨h1,h2,h3⟩:=ho
     subst h1; subst h2; subst h3
     simp only [Bool.false_eq_true,if_false] at z5
     rw [show p + 1 + ((l.length + 1 : Nat) : Int) = p + 1 + (l.length : Int) + 1 from by omega] at z5
     cases e3 : rdS G (rdT chkT G ats f) r (p + 1 + (l.length : Int) + 1) y.2 with
     | none=>rw [e3] at z5; simpa using z5
     | some u=>
      rw [e3] at z5
      simp only [Option.bind_some]
      obtain ⟨h4,h5,h6⟩:=z5
      exact ⟨by rw [h4]; simp,h5,h6⟩
   rw [B198_0_eq]
   refine W.join (W.ifT (decide_eq_true (by omega)) ?_)
   ((try simp only [n1,n2,n3,n4,n5,n6] at d); (with_reducible repeat first|refine W.a1 d ?_|refine W.a2 ?_|refine W.a3 ?_|refine W.bo ?_|refine W.a5 d fun hw d lw kw=>?_|refine W.a6 d ?_|refine W.a7 ?_|refine W.a8 ?_))
   refine W.il ?_
   ((try simp only [n1,n2,n3,n4,n5,n6] at d); (with_reducible repeat first|refine W.a1 d ?_|refine W.a2 ?_|refine W.a3 ?_|refine W.bo ?_|refine W.a5 d fun hw d lw kw=>?_|refine W.a6 d ?_|refine W.a7 ?_|refine W.a8 ?_))
   refine W.ifT (by decide) ?_
   ((try simp only [n1,n2,n3,n4,n5,n6] at d); (with_reducible repeat first|refine W.a1 d ?_|refine W.a2 ?_|refine W.a3 ?_|refine W.bo ?_|refine W.a5 d fun hw d lw kw=>?_|refine W.a6 d ?_|refine W.a7 ?_|refine W.a8 ?_))
   obtain ⟨ad,ea,g⟩:=(hS _ (d.rs (i:=0) rfl)).int hlt
   subst ea
   refine W.bs rfl (W.bs (by rw [show Int.toNat ((l.length : Int) + 1) * 1 = l.length + 1 from by omega]; exact g) ?_)
   rw [w64i (n:=(f : Int) + 1 - 1) (by omega) (by omega),show (f : Int) + 1 - 1 = (f : Int) from by omega]
   have d1:=Hs.part (D1:=[_]) (R1:=[_]) d
   refine W.wb (ih rb _ c m S _ A _ _ hwk hcc hA d1) ?_
   rintro ⟨u,h2⟩ ⟨t,cs',S',c',b',y1,d2,ho⟩
   simp only at y1 d2
   subst y1
   have d:=Hs.back (D1:=[_]) (R1:=[_]) d d2 (imA rfl)
   obtain ⟨k1,k2,k3,k4,k5,rfl⟩:=(d.rs (i:=1) rfl : TmG base (f + 1) S' h2 t _).form
   clear d1 d2
   ((try simp only [n1,n2,n3,n4,n5,n6] at d); (with_reducible repeat first|refine W.a1 d ?_|refine W.a2 ?_|refine W.a3 ?_|refine W.bo ?_|refine W.a5 d fun hw d lw kw=>?_|refine W.a6 d ?_|refine W.a7 ?_|refine W.a8 ?_); (refine W.nD d fun h4 d _ kh4=>?_); (with_reducible repeat first|refine W.a1 d ?_|refine W.a2 ?_|refine W.a3 ?_|refine W.bo ?_|refine W.a5 d fun hw d lw kw=>?_|refine W.a6 d ?_|refine W.a7 ?_|refine W.a8 ?_))
   obtain ⟨a5,h5,S5,e5,d,_,_,_⟩:=d.app1 (i:=2) (j:=1) (bytes:=56) (TmG.kp _ _) rfl rfl (by decide) (.head _) rfl (by decide) rfl (by omega) (by omega)
   refine W.bs e5 ?_
   ((try simp only [n1,n2,n3,n4,n5,n6] at d); (with_reducible repeat first|refine W.a1 d ?_|refine W.a2 ?_|refine W.a3 ?_|refine W.bo ?_|refine W.a5 d fun hw d lw kw=>?_|refine W.a6 d ?_|refine W.a7 ?_|refine W.a8 ?_))
   have d:=((((d.tl).frontR (Del.at (i:=2) rfl)).frontR (Del.at (i:=1) rfl)).takeR 2)
   rw [w64i (n:=(l.length : Int) + 1 + 1) (by omega) (by omega)]
   exact W.ret ⟨t,a5,c',b',S5,rfl,rfl,d,ho⟩
end Go.Proofs.Ytkdenmdijdmnjaa.Am
set_option linter.unusedSimpArgs false
set_option linter.unusedVariables false
namespace Go.Proofs.Ytkdenmdijdmnjaa.Am
open Go Go.RowKit
theorem sz1_iff {G : Gn} {p n k : Int} (e1 : gwd G p = some n) (hk : k≤1000) : inB (sz1 G p - 1) 0 k = inB n 0 k:=by
 unfold sz1
 rw [e1]
 simp only
 cases h : inB n 0 1000 with
 | true=>rw [if_pos rfl,show n + 1 - 1 = n from by omega]
 | false=>
  rw [if_neg (by decide)]
  unfold inB at *
  have : ¬ (0≤n∧n≤1000):=by simpa using h
  have h2 : ¬ (0≤n∧n≤k):=by omega
  have e2 : (decide (0≤n) && decide (n≤k)) = false:=by
   simp only [Bool.and_eq_false_iff,decide_eq_false_iff_not]
   omega
  rw [e2]
  simp
theorem rdS_none {G : Gn} {g : Int→Int→Option (Tm × Int)} : ∀ (n : Nat) (p c : Int) (i : Nat),i < n→gwd G (p + (i : Int)) = none→rdS G g n p c = none
 | 0,p,c,i,hi,_=>by omega
 | n + 1,p,c,0,hi,e=>by
  rw [show p + ((0 : Nat) : Int) = p from by omega] at e
  rw [rdS,e]; rfl
 | n + 1,p,c,i + 1,hi,e=>by
  rw [rdS]
  rw [show p + ((i + 1 : Nat) : Int) = p + 1 + (i : Int) from by omega] at e
  cases e1 : gwd G p with
  | none=>rfl
  | some w=>
   simp only [Option.bind_some]
   cases e2 : g w c with
   | none=>rfl
   | some x=>
    simp only [Option.bind_some]
    rw [rdS_none n (p + 1) _ i (by omega) e]
    rfl
def core4 (G : Gn) (ats : List ByteArray) (f : Nat) (p c : Int) : Option (List Tm × Int):=(gwd G p).bind fun n=>if inB n 0 8 = true then rdS G (rdT chkT G ats f) n.toNat (p + 1) c else none
theorem l6Tuple_run {base rb f : Nat} {G : Gn} {oa ya aa : Option Addr} {ats : List ByteArray} {p c : Int} {m : Bool} {S V : Fp} {A : AH→Prop} {h0 h : AH} (hG : G.Ok) (ho : G.old.length≤1000) (hp : 0≤p∧wOk p) (hf : f≤6) (hc : 0≤c∧c≤100) (hA : ∀ y,A y→RdA base oa ya G aa ats y) (ih : GetS base oa ya G aa ats f) (d : Hs base V h0 h [(rb,181,rdV oa ya G aa ats.length (100 - c) false)] [⟨S,m,A⟩]) :
  Wp (run (Et base) 198 [.pointer (at0 rb),.int .i64 p,.int .i64 ((f : Int) + 1)] h) fun o=>∃ t cs' S' c' b',o.1 = .agg cs'.toArray∧Hs base V h0 o.2 [(rb,181,rdV oa ya G aa ats.length (100 - c') b')] [⟨S,m,A⟩,⟨S',true,fun y=>TmG base (f + 2) S' y t cs'⟩]∧(match core4 G ats f p c with
   | some y=>t = .mk 4 0 ⟨#[]⟩ y.1∧c' = y.2∧b' = false
   | none=>b' = true):=by
 refine W.of (fun r hx=>Am.r198 hx) ?_
 ((try simp only [n1,n2,n3,n4,n5,n6] at d); (with_reducible repeat first|refine W.a1 d ?_|refine W.a2 ?_|refine W.a3 ?_|refine W.bo ?_|refine W.a5 d fun hw d lw kw=>?_|refine W.a6 d ?_|refine W.a7 ?_|refine W.a8 ?_); (refine W.nD d fun h1 d _ kh1=>?_); (with_reducible repeat first|refine W.a1 d ?_|refine W.a2 ?_|refine W.a3 ?_|refine W.bo ?_|refine W.a5 d fun hw d lw kw=>?_|refine W.a6 d ?_|refine W.a7 ?_|refine W.a8 ?_))
 refine W.bs specMk_run ?_
 ((try simp only [n1,n2,n3,n4,n5,n6] at d); (with_reducible repeat first|refine W.a1 d ?_|refine W.a2 ?_|refine W.a3 ?_|refine W.bo ?_|refine W.a5 d fun hw d lw kw=>?_|refine W.a6 d ?_|refine W.a7 ?_|refine W.a8 ?_))
 obtain ⟨h2,e2,k2⟩:=l6Size_run (base:=base) (w:=mkW 4 p) hG ho (mkW_ok _ _) (hA _ (d.rs (i:=0) rfl)).gnO d.ge
 refine W.bs e2 ?_
 have d:=d.kN k2
 rw [szW_mk hG (.inl rfl) hp.1]
 have hz:=sz1_le G p
 ((try simp only [n1,n2,n3,n4,n5,n6] at d); (with_reducible repeat first|refine W.a1 d ?_|refine W.a2 ?_|refine W.a3 ?_|refine W.bo ?_|refine W.a5 d fun hw d lw kw=>?_|refine W.a6 d ?_|refine W.a7 ?_|refine W.a8 ?_))
 rw [w64i (n:=sz1 G p - 1) (by omega) (by omega),w64i (n:=sz1 G p - 1 + 1) (by omega) (by omega),show sz1 G p - 1 + 1 = sz1 G p from by omega]
 obtain ⟨a',h3,e3,s3,k3,x3⟩:=l6Words_run (base:=base) (p:=p) (n:=sz1 G p) hG hp.2 ⟨by omega,by omega⟩ (hA _ (d.rs (i:=0) rfl)).gnO d.ge
 refine W.bs e3 ?_
 have d:=d.kN k3
 ((try simp only [n1,n2,n3,n4,n5,n6] at d); (with_reducible repeat first|refine W.a1 d ?_|refine W.a2 ?_|refine W.a3 ?_|refine W.bo ?_|refine W.a5 d fun hw d lw kw=>?_|refine W.a6 d ?_|refine W.a7 ?_|refine W.a8 ?_); (refine W.nD d fun h4 d _ kh4=>?_); (with_reducible repeat first|refine W.a1 d ?_|refine W.a2 ?_|refine W.a3 ?_|refine W.bo ?_|refine W.a5 d fun hw d lw kw=>?_|refine W.a6 d ?_|refine W.a7 ?_|refine W.a8 ?_))
 have d:=d.front (Del.at (i:=2) rfl)
 simp only [n5,n6] at d
 have d : Hs base V h0 hw [(rb,181,rdV oa ya G aa ats.length (100 - c) false),(h3.length,42,termV 4 0 ⟨#[]⟩ none 0),(h.length,42,termV 0 0 ⟨#[]⟩ none 0)] [⟨S,m,A⟩]:=d
 apply W.jb (!(inB (sz1 G p - 1) 0 8 && gwB G p (sz1 G p))) d
 ·refine W.bs l1In_run ?_
  ((try simp only [n1,n2,n3,n4,n5,n6] at d); (with_reducible repeat first|refine W.a1 d ?_|refine W.a2 ?_|refine W.a3 ?_|refine W.bo ?_|refine W.a5 d fun hw d lw kw=>?_|refine W.a6 d ?_|refine W.a7 ?_|refine W.a8 ?_))
  refine W.ite (fun c=>?_) (fun c=>?_)
  ·have c : inB (sz1 G p - 1) 0 8 = false:=by simpa using c
   rw [c]; exact W.lb rfl rfl (KB.refl _ _)
  ·have c : inB (sz1 G p - 1) 0 8 = true:=by simpa using c
   rw [c]; exact W.lb rfl (by simp) (KB.refl _ _)
 intro h5 d n5'
 ((try simp only [n1,n2,n3,n4,n5,n6] at d); (with_reducible repeat first|refine W.a1 d ?_|refine W.a2 ?_|refine W.a3 ?_|refine W.bo ?_|refine W.a5 d fun hw d lw kw=>?_|refine W.a6 d ?_|refine W.a7 ?_|refine W.a8 ?_))
 refine W.ite (fun cc=>?_) (fun cc=>?_)
 ·((try simp only [n1,n2,n3,n4,n5,n6] at d); (with_reducible repeat first|refine W.a1 d ?_|refine W.a2 ?_|refine W.a3 ?_|refine W.bo ?_|refine W.a5 d fun hw d lw kw=>?_|refine W.a6 d ?_|refine W.a7 ?_|refine W.a8 ?_))
  have d:=(d.takeD 1).call (KB.refl NoB _) (fun _=>False) (fun y=>TmG base (f + 2) (fun _=>False) y (.mk 4 0 ⟨#[]⟩ []) (termV 4 0 ⟨#[]⟩ none 0)) ⟨by decide,by decide,none,rfl,RowO.nil⟩ (fun U y y' k hs x=>TmG.kp _ _ _ U y y' _ _ k hs x) (fun _ h=>h.elim)
  refine W.ret ⟨.mk 4 0 ⟨#[]⟩ [],termV 4 0 ⟨#[]⟩ none 0,_,c,true,rfl,d,?_⟩
  unfold core4
  cases e1 : gwd G p with
  | none=>simp
  | some n=>
   simp only [Option.bind_some]
   by_cases hn : inB n 0 8 = true
   ·rw [if_pos hn]
    have hn2 : 0≤n∧n≤8:=by unfold inB at hn; simpa using hn
    rw [sz1_iff e1 (by omega),hn,Bool.true_and] at cc
    have es : sz1 G p = n + 1:=by
     unfold sz1; rw [e1]; simp only
     rw [if_pos (by unfold inB; simp; omega)]
    rw [es] at cc
    have c : gwB G p (n + 1) = false:=by simpa using cc
    obtain ⟨i,hi,e⟩:=gws_no ho (by omega) c
    cases i with
    | zero=>rw [show p + ((0 : Nat) : Int) = p from by omega,e1] at e; cases e
    | succ i=>
     rw [rdS_none n.toNat (p + 1) _ i (by omega) (by rw [show p + 1 + (i : Int) = p + ((i + 1 : Nat) : Int) from by omega]; exact e)]
     simp
   ·rw [if_neg hn]; simp
 ·have cc : inB (sz1 G p - 1) 0 8 = true∧gwB G p (sz1 G p) = true:=by simpa using cc
  obtain ⟨c1,c2⟩:=cc
  have c3 : 0≤sz1 G p - 1∧sz1 G p - 1≤8:=by unfold inB at c1; simpa using c1
  have hlen:=gws_len c2
  have ea:=x3 c2
  have dk:=d
  subst ea
  have d:=dk.call (KB.refl NoB _) (fun _=>False) (fun y=>RowO base 42 4 (TmG base (f + 1)) (fun _=>False) y [] none) RowO.nil (fun U y y' k hs x=>x.keep (TmG.kp _ _) k hs) (fun _ h=>h.elim)
  refine W.wb (l6Tuple_loop (base:=base) (p:=p) (L:=gws G p (sz1 G p)) (A:=A) hG (by omega) hf hA (fun y hy=>(hA y hy).gnO.sl c2) (fun i hi=>gws_at ho c2 hi) ih ((sz1 G p - 1).toNat) h5 [] none c false _ (by simp; omega) (fun _=>hc) d) ?_
  rintro ⟨o1,o2,h6⟩ ⟨l',a2,c',b',S',z1,z2,z3,d,z5⟩
  simp only at z1 z2 d
  subst z1; subst z2
  refine W.ifT rfl ?_
  ((try simp only [n1,n2,n3,n4,n5,n6] at d); (with_reducible repeat first|refine W.a1 d ?_|refine W.a2 ?_|refine W.a3 ?_|refine W.bo ?_|refine W.a5 d fun hw d lw kw=>?_|refine W.a6 d ?_|refine W.a7 ?_|refine W.a8 ?_))
  have hl9 : l'.length≤9:=by omega
  have row : RowO base 42 4 (TmG base (f + 1)) S' hw l' a2:=d.rs (i:=1) rfl
  have d:=(d.takeD 1).re (r:=rTs base (f + 1) S' l' a2) (r':=⟨S',true,fun y=>TmG base (f + 2) S' y (.mk 4 0 ⟨#[]⟩ l') (termV 4 0 ⟨#[]⟩ a2 l'.length)⟩) (Upd.at (i:=1) rfl) rfl rfl ⟨by decide,Nat.le_trans hl9 (by decide),a2,rfl,row⟩ (fun U y y' k hs x=>TmG.kp _ _ _ U y y' _ _ k hs x) (fun b hb=>hb)
  refine W.ret ⟨.mk 4 0 ⟨#[]⟩ l',termV 4 0 ⟨#[]⟩ a2 l'.length,S',c',b',rfl,d,?_⟩
  obtain ⟨n,e1⟩ : ∃ n,gwd G p = some n:=by
   cases e : gwd G p with
   | some n=>exact ⟨n,rfl⟩
   | none=>exfalso; unfold sz1 at c3; rw [e] at c3; simp only at c3; omega
  have hn8 : inB n 0 8 = true:=by rw [← sz1_iff e1 (by omega)]; exact c1
  have hn2 : 0≤n∧n≤8:=by unfold inB at hn8; simpa using hn8
  have es : sz1 G p = n + 1:=by
   unfold sz1; rw [e1]; simp only
   rw [if_pos (by unfold inB; simp; omega)]
  unfold core4
  rw [e1]
  simp only [Option.bind_some]
  rw [if_pos hn8]
  unfold OutL at z5
  simp only [Bool.false_eq_true,if_false,List.length_nil,Int.natCast_zero,Int.add_zero] at z5
  rw [show n.toNat = (sz1 G p - 1).toNat from by rw [es]; congr 1; omega]
  cases e2 : rdS G (rdT chkT G ats f) (sz1 G p - 1).toNat (p + 1) c with
  | none=>rw [e2] at z5; exact z5
  | some y=>
   rw [e2] at z5
   obtain ⟨i1,i2,i3⟩:=z5
   exact ⟨by rw [i1]; rfl,i2,i3⟩
end Go.Proofs.Ytkdenmdijdmnjaa.Am
set_option linter.unusedSimpArgs false
set_option linter.unusedVariables false
namespace Go.Proofs.Ytkdenmdijdmnjaa.Am
open Go Go.RowKit
theorem gws_two {G : Gn} (ho : G.old.length≤1000) {p : Int} (h : gwB G p 2 = true) : ∃ x y,gws G p 2 = [x,y]∧gwd G p = some x∧gwd G (p + 1) = some y:=by
 have hl:=gws_len h
 have ha:=fun (i : Nat) (hi : i < (gws G p 2).length)=>gws_at ho h hi
 cases e : gws G p 2 with
 | nil=>rw [e] at hl; simp at hl
 | cons x r=>
  cases r with
  | nil=>rw [e] at hl; simp at hl
  | cons y r=>
   cases r with
   | cons z r=>rw [e] at hl; simp at hl; omega
   | nil=>
    refine ⟨x,y,rfl,?_,?_⟩
    ·have:=ha 0 (by rw [e]; simp)
     rw [show p + ((0 : Nat) : Int) = p from by omega] at this
     rw [this]; simp [e]
    ·have:=ha 1 (by rw [e]; simp)
     rw [show p + ((1 : Nat) : Int) = p + 1 from by omega] at this
     rw [this]; simp [e]
theorem rdL_bad {G : Gn} (ho : G.old.length≤1000) {g : Int→Int→Option (Tm × Int)} {n : Nat} {w c : Int} (h3 : w ≠ 3) (h : gwB G (valW w) 2 = false ∨ w < 0 ∨ tagW w ≠ 5 ∨ n = 0) : rdL G g n w c = none:=by
 cases n with
 | zero=>rw [rdL_0,if_neg h3]
 | succ n=>
  rw [rdL_s,if_neg h3]
  by_cases h2 : w < 0 ∨ tagW w ≠ 5
  ·rw [if_pos h2]
  ·rw [if_neg h2]
   have h : gwB G (valW w) 2 = false:=by
    rcases h with h|h|h|h
    ·exact h
    ·exact absurd (.inl h) h2
    ·exact absurd (.inr h) h2
    ·omega
   obtain ⟨i,hi,e⟩:=gws_no ho (by omega) h
   cases e1 : gwd G (valW w) with
   | none=>rfl
   | some x=>
    simp only [Option.bind_some]
    cases e2 : g x c with
    | none=>rfl
    | some t=>
     simp only [Option.bind_some]
     cases i with
     | zero=>rw [show valW w + ((0 : Nat) : Int) = valW w from by omega,e1] at e; cases e
     | succ i=>
      have : i = 0:=by omega
      subst this
      rw [show valW w + ((0 + 1 : Nat) : Int) = valW w + 1 from by omega] at e
      rw [e]; rfl
abbrev rdD (base : Nat) (V : Fp) (h0 h : AH) (rb tb zb : Nat) (oa ya : Option Addr) (G : Gn) (aa : Option Addr) (n : Nat) (c : Int) (b : Bool) (tv zv : List Value) (R : List Rs) : Prop:=Hs base V h0 h [(rb,181,rdV oa ya G aa n (100 - c) b),(tb,42,tv),(zb,42,zv)] R
def ConsP (base rb tb zb f : Nat) (oa ya : Option Addr) (G : Gn) (aa : Option Addr) (ats : List ByteArray) (m : Bool) (S V : Fp) (A : AH→Prop) (h0 : AH) (b : Bool) (X : Option (List Tm × Int)) (l : List Tm) (o : Nat × Slots × AH) : Prop:=
 ∃ l' a2 c' b' S',l'.length≤20∧((o.1 = 2∧o.2.1 = [some (.pointer (at0 zb)),some (.pointer (at0 tb))]∧rdD base V h0 o.2.2 rb tb zb oa ya G aa ats.length c' b' (termV 5 0 ⟨#[]⟩ a2 l'.length) (termV 0 0 ⟨#[]⟩ none 0) [⟨S,m,A⟩,rTs base (f + 1) S' l' a2]) ∨
  (o.1 = 1∧o.2.1 = [some (.pointer (at0 zb))]∧rdD base V h0 o.2.2 rb tb zb oa ya G aa ats.length c' b' (termV 5 0 ⟨#[]⟩ a2 l'.length) (termV 5 0 ⟨#[]⟩ a2 l'.length) [⟨S,m,A⟩,rTs base (f + 1) S' l' a2]))∧OutL b X l l' c' b'
theorem l6Cons_loop {base rb tb zb f : Nat} {G : Gn} {oa ya aa : Option Addr} {ats : List ByteArray} {m : Bool} {S V : Fp} {A : AH→Prop} {h0 : AH} (hG : G.Ok) (ho : G.old.length≤1000) (hf : f≤6) (hA : ∀ y,A y→RdA base oa ya G aa ats y) (ih : GetS base oa ya G aa ats f) : ∀ (r : Nat) (h : AH) (w : Int) (l : List Tm) (ao : Option Addr) (c : Int) (b : Bool) (S2 : Fp),wOk w→l.length + r = 20→(b = false→0≤c∧c≤100)→rdD base V h0 h rb tb zb oa ya G aa ats.length c b (termV 5 0 ⟨#[]⟩ ao l.length) (termV 0 0 ⟨#[]⟩ none 0) [⟨S,m,A⟩,rTs base (f + 1) S2 l ao] →
  Wp (loopL (B197_0 base) [some (.pointer (at0 rb)),some (.int .i64 w),some (.int .i64 ((f : Int) + 1)),some (.pointer (at0 zb)),some (.pointer (at0 tb))] h) (ConsP base rb tb zb f oa ya G aa ats m S V A h0 b (rdL G (rdT chkT G ats f) r w c) l):=by
 intro r
 have stop : ∀ (h : AH) (w : Int) (l : List Tm) (ao : Option Addr) (c : Int) (b : Bool) (S2 : Fp) (X : Option (List Tm × Int)),l.length≤20→rdD base V h0 h rb tb zb oa ya G aa ats.length c b (termV 5 0 ⟨#[]⟩ ao l.length) (termV 0 0 ⟨#[]⟩ none 0) [⟨S,m,A⟩,rTs base (f + 1) S2 l ao]→(w = 3 ∨ b = true)→OutL b X l l c b→Wp (loopL (B197_0 base) [some (.pointer (at0 rb)),some (.int .i64 w),some (.int .i64 ((f : Int) + 1)),some (.pointer (at0 zb)),some (.pointer (at0 tb))] h) (ConsP base rb tb zb f oa ya G aa ats m S V A h0 b X l):=by
  intro h w l ao c b S2 X hl d hc hx
  suffices w1 : Wp (B197_0 base [some (.pointer (at0 rb)),some (.int .i64 w),some (.int .i64 ((f : Int) + 1)),some (.pointer (at0 zb)),some (.pointer (at0 tb))] h) fun o=>o = (2,[some (.pointer (at0 zb)),some (.pointer (at0 tb))],h) by
   obtain ⟨o,e,rfl⟩:=w1
   exact ⟨_,loop_off (by decide) e,l,ao,c,b,S2,hl,.inl ⟨rfl,rfl,d⟩,hx⟩
  rw [B197_0_eq]
  refine W.joinP (fun q=>q = ([some (.pointer (at0 rb)),some (.int .i64 w),some (.int .i64 ((f : Int) + 1)),some (.pointer (at0 zb)),some (.pointer (at0 tb)),some (.bool false)],h)) ?_ fun q hq=>?_
  ·((try simp only [n1,n2,n3,n4,n5,n6] at d); (with_reducible repeat first|refine W.a1 d ?_|refine W.a2 ?_|refine W.a3 ?_|refine W.bo ?_|refine W.a5 d fun hw d lw kw=>?_|refine W.a6 d ?_|refine W.a7 ?_|refine W.a8 ?_))
   refine W.ite (fun c1=>?_) (fun c1=>?_)
   ·have c1 : b = false:=by simpa using c1
    refine W.bs specMk_run ?_
    ((try simp only [n1,n2,n3,n4,n5,n6] at d); (with_reducible repeat first|refine W.a1 d ?_|refine W.a2 ?_|refine W.a3 ?_|refine W.bo ?_|refine W.a5 d fun hw d lw kw=>?_|refine W.a6 d ?_|refine W.a7 ?_|refine W.a8 ?_))
    refine W.inl ?_
    have : w = 3:=hc.resolve_right (by rw [c1]; decide)
    rw [this,show mkW 3 0 = 3 from rfl]; rfl
   ·exact W.inl rfl
  subst hq
  ((try simp only [n1,n2,n3,n4,n5,n6] at d); (with_reducible repeat first|refine W.a1 d ?_|refine W.a2 ?_|refine W.a3 ?_|refine W.bo ?_|refine W.a5 d fun hw d lw kw=>?_|refine W.a6 d ?_|refine W.a7 ?_|refine W.a8 ?_))
  exact W.ifF (by decide) (W.ret rfl)
 have badE : ∀ (h : AH) (w : Int) (l : List Tm) (ao : Option Addr) (c : Int) (S2 : Fp) (X : Option (List Tm × Int)),wOk w→l.length≤20→rdD base V h0 h rb tb zb oa ya G aa ats.length c false (termV 5 0 ⟨#[]⟩ ao l.length) (termV 0 0 ⟨#[]⟩ none 0) [⟨S,m,A⟩,rTs base (f + 1) S2 l ao]→w ≠ 3→(gwB G (valW w) 2 = false ∨ w < 0 ∨ tagW w ≠ 5 ∨ l.length = 20)→X = none→Wp (loopL (B197_0 base) [some (.pointer (at0 rb)),some (.int .i64 w),some (.int .i64 ((f : Int) + 1)),some (.pointer (at0 zb)),some (.pointer (at0 tb))] h) (ConsP base rb tb zb f oa ya G aa ats m S V A h0 false X l):=by
  intro h w l ao c S2 X hw hl d h3 hbad hX
  suffices w1 : Wp (B197_0 base [some (.pointer (at0 rb)),some (.int .i64 w),some (.int .i64 ((f : Int) + 1)),some (.pointer (at0 zb)),some (.pointer (at0 tb))] h) fun o=>o.1 = 1∧o.2.1 = [some (.pointer (at0 zb))]∧rdD base V h0 o.2.2 rb tb zb oa ya G aa ats.length c true (termV 5 0 ⟨#[]⟩ ao l.length) (termV 5 0 ⟨#[]⟩ ao l.length) [⟨S,m,A⟩,rTs base (f + 1) S2 l ao] by
   obtain ⟨⟨o1,o2,o3⟩,e,y1,y2,y3⟩:=w1
   simp only at y1 y2 y3
   subst y1; subst y2
   exact ⟨_,loop_off (by decide) e,l,ao,c,true,S2,hl,.inr ⟨rfl,rfl,y3⟩,by rw [hX]; rfl⟩
  rw [B197_0_eq]
  refine W.joinP (fun q=>q = ([some (.pointer (at0 rb)),some (.int .i64 w),some (.int .i64 ((f : Int) + 1)),some (.pointer (at0 zb)),some (.pointer (at0 tb)),some (.bool true)],h)) ?_ fun q hq=>?_
  ·((try simp only [n1,n2,n3,n4,n5,n6] at d); (with_reducible repeat first|refine W.a1 d ?_|refine W.a2 ?_|refine W.a3 ?_|refine W.bo ?_|refine W.a5 d fun hw d lw kw=>?_|refine W.a6 d ?_|refine W.a7 ?_|refine W.a8 ?_))
   refine W.ifT (by decide) ?_
   refine W.bs specMk_run ?_
   ((try simp only [n1,n2,n3,n4,n5,n6] at d); (with_reducible repeat first|refine W.a1 d ?_|refine W.a2 ?_|refine W.a3 ?_|refine W.bo ?_|refine W.a5 d fun hw d lw kw=>?_|refine W.a6 d ?_|refine W.a7 ?_|refine W.a8 ?_))
   refine W.inl ?_
   rw [show mkW 3 0 = 3 from rfl]
   have : (w != 3) = true:=by simpa using h3
   rw [this]
  subst hq
  ((try simp only [n1,n2,n3,n4,n5,n6] at d); (with_reducible repeat first|refine W.a1 d ?_|refine W.a2 ?_|refine W.a3 ?_|refine W.bo ?_|refine W.a5 d fun hw d lw kw=>?_|refine W.a6 d ?_|refine W.a7 ?_|refine W.a8 ?_))
  refine W.ifT rfl ?_
  ((try simp only [n1,n2,n3,n4,n5,n6] at d); (with_reducible repeat first|refine W.a1 d ?_|refine W.a2 ?_|refine W.a3 ?_|refine W.bo ?_|refine W.a5 d fun hw d lw kw=>?_|refine W.a6 d ?_|refine W.a7 ?_|refine W.a8 ?_))
  refine W.bs (specVal_run hw.2) ?_
  ((try simp only [n1,n2,n3,n4,n5,n6] at d); (with_reducible repeat first|refine W.a1 d ?_|refine W.a2 ?_|refine W.a3 ?_|refine W.bo ?_|refine W.a5 d fun hw d lw kw=>?_|refine W.a6 d ?_|refine W.a7 ?_|refine W.a8 ?_))
  obtain ⟨a',h2,e2,s2,k2,x2⟩:=l6Words_run (base:=base) (p:=valW w) (n:=2) hG (valW_ok hw) ⟨by omega,by omega⟩ (hA _ (d.rs (i:=0) rfl)).gnO d.ge
  refine W.bs e2 ?_
  have d : rdD base V h0 h2 rb tb zb oa ya G aa ats.length c false (termV 5 0 ⟨#[]⟩ ao l.length) (termV 0 0 ⟨#[]⟩ none 0) [⟨S,m,A⟩,rTs base (f + 1) S2 l ao]:=d.kN k2
  ((try simp only [n1,n2,n3,n4,n5,n6] at d); (with_reducible repeat first|refine W.a1 d ?_|refine W.a2 ?_|refine W.a3 ?_|refine W.bo ?_|refine W.a5 d fun hw d lw kw=>?_|refine W.a6 d ?_|refine W.a7 ?_|refine W.a8 ?_))
  apply W.jb true d
  ·refine W.ite (fun c1=>W.lb rfl rfl (KB.refl _ _)) (fun c1=>?_)
   refine W.ite (fun c2=>W.lb rfl rfl (KB.refl _ _)) (fun c2=>?_)
   refine W.bs specTag_run ?_
   ((try simp only [n1,n2,n3,n4,n5,n6] at d); (with_reducible repeat first|refine W.a1 d ?_|refine W.a2 ?_|refine W.a3 ?_|refine W.bo ?_|refine W.a5 d fun hw d lw kw=>?_|refine W.a6 d ?_|refine W.a7 ?_|refine W.a8 ?_))
   refine W.ite (fun c3=>W.lb rfl rfl (KB.refl _ _)) (fun c3=>?_)
   ((try simp only [n1,n2,n3,n4,n5,n6] at d); (with_reducible repeat first|refine W.a1 d ?_|refine W.a2 ?_|refine W.a3 ?_|refine W.bo ?_|refine W.a5 d fun hw d lw kw=>?_|refine W.a6 d ?_|refine W.a7 ?_|refine W.a8 ?_))
   refine W.lb rfl ?_ (KB.refl _ _)
   have c1 : gwB G (valW w) 2 = true:=by simpa using c1
   have c2 : ¬ w < 0:=by simpa using c2
   have c3 : tagW w = 5:=by simpa using c3
   have hl20 : l.length = 20:=by
    rcases hbad with h|h|h|h
    ·rw [c1] at h; cases h
    ·exact absurd h c2
    ·exact absurd c3 h
    ·exact h
   rw [hl20]; rfl
  intro h3' d n3
  ((try simp only [n1,n2,n3,n4,n5,n6] at d); (with_reducible repeat first|refine W.a1 d ?_|refine W.a2 ?_|refine W.a3 ?_|refine W.bo ?_|refine W.a5 d fun hw d lw kw=>?_|refine W.a6 d ?_|refine W.a7 ?_|refine W.a8 ?_))
  refine W.ifT rfl ?_
  ((try simp only [n1,n2,n3,n4,n5,n6] at d); (with_reducible repeat first|refine W.a1 d ?_|refine W.a2 ?_|refine W.a3 ?_|refine W.bo ?_|refine W.a5 d fun hw d lw kw=>?_|refine W.a6 d ?_|refine W.a7 ?_|refine W.a8 ?_))
  exact W.ret ⟨rfl,rfl,d⟩
 induction r with
 | zero=>
  intro h w l ao c b S2 hw hl hcb d
  by_cases hs : w = 3 ∨ b = true
  ·refine stop h w l ao c b S2 _ (by omega) d hs ?_
   unfold OutL
   cases b with
   | true=>rfl
   | false=>
    have : w = 3:=hs.resolve_right (by decide)
    rw [rdL_0,if_pos this]
    exact ⟨by simp,rfl,rfl⟩
  ·have h3 : w ≠ 3:=fun h=>hs (.inl h)
   have hb : b = false:=by
    cases b with
    | true=>exact absurd (.inr rfl) hs
    | false=>rfl
   subst hb
   exact badE h w l ao c S2 _ hw (by omega) d h3 (.inr (.inr (.inr (by omega)))) (by rw [rdL_0,if_neg h3])
 | succ r ihr=>
  intro h w l ao c b S2 hw hl hcb d
  by_cases hs : w = 3 ∨ b = true
  ·refine stop h w l ao c b S2 _ (by omega) d hs ?_
   unfold OutL
   cases b with
   | true=>rfl
   | false=>
    have : w = 3:=hs.resolve_right (by decide)
    rw [rdL_s,if_pos this]
    exact ⟨by simp,rfl,rfl⟩
  have h3 : w ≠ 3:=fun h=>hs (.inl h)
  have hb : b = false:=by
   cases b with
   | true=>exact absurd (.inr rfl) hs
   | false=>rfl
  subst hb
  have hcc:=hcb rfl
  by_cases hbad : gwB G (valW w) 2 = false ∨ w < 0 ∨ tagW w ≠ 5
  ·exact badE h w l ao c S2 _ hw (by omega) d h3 (by rcases hbad with h|h|h <;> simp [h]) (rdL_bad ho h3 (by rcases hbad with h|h|h <;> simp [h]))
  have g1 : gwB G (valW w) 2 = true:=by
   cases e : gwB G (valW w) 2 with
   | true=>rfl
   | false=>exact absurd (.inl e) hbad
  have g2 : ¬ w < 0:=fun h=>hbad (.inr (.inl h))
  have g3 : tagW w = 5:=Classical.byContradiction fun h=>hbad (.inr (.inr h))
  obtain ⟨x,w',ew,ex,ew'⟩:=gws_two ho g1
  have hxk:=(gwd_ok hG ex).1
  have hwk:=(gwd_ok hG ew').1
  suffices w1 : Wp (B197_0 base [some (.pointer (at0 rb)),some (.int .i64 w),some (.int .i64 ((f : Int) + 1)),some (.pointer (at0 zb)),some (.pointer (at0 tb))] h) fun o=>∃ t a2 c' b' S',o.1 = 0∧o.2.1 = [some (.pointer (at0 rb)),some (.int .i64 w'),some (.int .i64 ((f : Int) + 1)),some (.pointer (at0 zb)),some (.pointer (at0 tb))]∧rdD base V h0 o.2.2 rb tb zb oa ya G aa ats.length c' b' (termV 5 0 ⟨#[]⟩ a2 (l.length + 1)) (termV 0 0 ⟨#[]⟩ none 0) [⟨S,m,A⟩,rTs base (f + 1) S' (l ++ [t]) a2]∧OutT false (rdT chkT G ats f x c) t c' b' by
   obtain ⟨⟨o1,o2,h'⟩,e,t,a2,c',b',S',y1,y2,d',hx⟩:=w1
   simp only at y1 y2 d'
   subst y1; subst y2
   have el : (l ++ [t]).length = l.length + 1:=by simp
   have hcb' : b' = false→0≤c'∧c'≤100:=by
    intro eb
    cases e2 : rdT chkT G ats f x c with
    | none=>simp [OutT,e2] at hx; rw [hx] at eb; cases eb
    | some y=>
     simp only [OutT,e2,Bool.false_eq_true,if_false] at hx
     rw [hx.2.1]
     exact rdT_le f _ c y e2 hcc.1
   obtain ⟨o,eo,l2,a3,c2,b2,S3,z1,z2,z3⟩:=ihr h' w' (l ++ [t]) a2 c' b' S' hwk (by omega) hcb' (by rw [el]; exact d')
   refine ⟨o,loop_on e eo,l2,a3,c2,b2,S3,z1,z2,?_⟩
   rw [rdL_s,if_neg h3,if_neg (by simp [g2,g3]),ex]
   simp only [OutT,OutL,Bool.false_eq_true,if_false,Option.bind_some] at hx z3 ⊢
   cases e2 : rdT chkT G ats f x c with
   | none=>
    rw [e2] at hx
    simp only [Option.bind_none] at hx ⊢
    rw [if_pos hx] at z3
    exact z3
   | some y=>
    rw [e2] at hx
    simp only [Option.bind_some] at hx ⊢
    obtain ⟨i1,i2,i3⟩:=hx
    subst i1; subst i2; subst i3
    rw [ew']
    simp only [Bool.false_eq_true,if_false,Option.bind_some] at z3 ⊢
    cases e4 : rdL G (rdT chkT G ats f) r w' y.2 with
    | none=>rw [e4] at z3; simpa using z3
    | some u=>
     rw [e4] at z3
     simp only [Option.bind_some]
     obtain ⟨i5,i6,i7⟩:=z3
     exact ⟨by rw [i5]; simp,i6,i7⟩
  rw [B197_0_eq]
  refine W.joinP (fun q=>q = ([some (.pointer (at0 rb)),some (.int .i64 w),some (.int .i64 ((f : Int) + 1)),some (.pointer (at0 zb)),some (.pointer (at0 tb)),some (.bool true)],h)) ?_ fun q hq=>?_
  ·((try simp only [n1,n2,n3,n4,n5,n6] at d); (with_reducible repeat first|refine W.a1 d ?_|refine W.a2 ?_|refine W.a3 ?_|refine W.bo ?_|refine W.a5 d fun hw d lw kw=>?_|refine W.a6 d ?_|refine W.a7 ?_|refine W.a8 ?_))
   refine W.ifT (by decide) ?_
   refine W.bs specMk_run ?_
   ((try simp only [n1,n2,n3,n4,n5,n6] at d); (with_reducible repeat first|refine W.a1 d ?_|refine W.a2 ?_|refine W.a3 ?_|refine W.bo ?_|refine W.a5 d fun hw d lw kw=>?_|refine W.a6 d ?_|refine W.a7 ?_|refine W.a8 ?_))
   refine W.inl ?_
   rw [show mkW 3 0 = 3 from rfl]
   have : (w != 3) = true:=by simpa using h3
   rw [this]
  subst hq
  ((try simp only [n1,n2,n3,n4,n5,n6] at d); (with_reducible repeat first|refine W.a1 d ?_|refine W.a2 ?_|refine W.a3 ?_|refine W.bo ?_|refine W.a5 d fun hw d lw kw=>?_|refine W.a6 d ?_|refine W.a7 ?_|refine W.a8 ?_))
  refine W.ifT rfl ?_
  ((try simp only [n1,n2,n3,n4,n5,n6] at d); (with_reducible repeat first|refine W.a1 d ?_|refine W.a2 ?_|refine W.a3 ?_|refine W.bo ?_|refine W.a5 d fun hw d lw kw=>?_|refine W.a6 d ?_|refine W.a7 ?_|refine W.a8 ?_))
  refine W.bs (specVal_run hw.2) ?_
  ((try simp only [n1,n2,n3,n4,n5,n6] at d); (with_reducible repeat first|refine W.a1 d ?_|refine W.a2 ?_|refine W.a3 ?_|refine W.bo ?_|refine W.a5 d fun hw d lw kw=>?_|refine W.a6 d ?_|refine W.a7 ?_|refine W.a8 ?_))
  obtain ⟨a',h2,e2,s2,k2,x2⟩:=l6Words_run (base:=base) (p:=valW w) (n:=2) hG (valW_ok hw) ⟨by omega,by omega⟩ (hA _ (d.rs (i:=0) rfl)).gnO d.ge
  refine W.bs e2 ?_
  have ea:=x2 g1
  have sA : ∀ y,A y→Sl y a' (iv .i64 (gws G (valW w) 2)):=fun y hy=>by rw [ea]; exact (hA y hy).gnO.sl g1
  rw [ew] at sA ⊢
  rw [g1]
  have d : rdD base V h0 h2 rb tb zb oa ya G aa ats.length c false (termV 5 0 ⟨#[]⟩ ao l.length) (termV 0 0 ⟨#[]⟩ none 0) [⟨S,m,A⟩,rTs base (f + 1) S2 l ao]:=d.kN k2
  ((try simp only [n1,n2,n3,n4,n5,n6] at d); (with_reducible repeat first|refine W.a1 d ?_|refine W.a2 ?_|refine W.a3 ?_|refine W.bo ?_|refine W.a5 d fun hw d lw kw=>?_|refine W.a6 d ?_|refine W.a7 ?_|refine W.a8 ?_))
  apply W.jb false d
  ·refine W.ifF (by decide) (W.ifF (by simpa using g2) ?_)
   refine W.bs specTag_run ?_
   ((try simp only [n1,n2,n3,n4,n5,n6] at d); (with_reducible repeat first|refine W.a1 d ?_|refine W.a2 ?_|refine W.a3 ?_|refine W.bo ?_|refine W.a5 d fun hw d lw kw=>?_|refine W.a6 d ?_|refine W.a7 ?_|refine W.a8 ?_))
   refine W.ifF (by simp [g3]) ?_
   ((try simp only [n1,n2,n3,n4,n5,n6] at d); (with_reducible repeat first|refine W.a1 d ?_|refine W.a2 ?_|refine W.a3 ?_|refine W.bo ?_|refine W.a5 d fun hw d lw kw=>?_|refine W.a6 d ?_|refine W.a7 ?_|refine W.a8 ?_))
   refine W.lb rfl ?_ (KB.refl _ _)
   have : ¬ ((l.length : Int) = 20):=by omega
   simp [this]
  intro h3' d n3
  ((try simp only [n1,n2,n3,n4,n5,n6] at d); (with_reducible repeat first|refine W.a1 d ?_|refine W.a2 ?_|refine W.a3 ?_|refine W.bo ?_|refine W.a5 d fun hw d lw kw=>?_|refine W.a6 d ?_|refine W.a7 ?_|refine W.a8 ?_))
  refine W.ifF (by decide) ?_
  ((try simp only [n1,n2,n3,n4,n5,n6] at d); (with_reducible repeat first|refine W.a1 d ?_|refine W.a2 ?_|refine W.a3 ?_|refine W.bo ?_|refine W.a5 d fun hw d lw kw=>?_|refine W.a6 d ?_|refine W.a7 ?_|refine W.a8 ?_))
  obtain ⟨ad,ea1,g⟩:=(sA _ (d.rs (i:=0) rfl)).int (i:=0) (by simp)
  subst ea1
  refine W.bs rfl (W.bs g ?_)
  rw [w64i (n:=(f : Int) + 1 - 1) (by omega) (by omega),show (f : Int) + 1 - 1 = (f : Int) from by omega]
  have d1:=Hs.part (D1:=[_]) (R1:=[_]) d
  refine W.wb (ih rb _ c m S _ A _ _ hxk hcc hA d1) ?_
  rintro ⟨u,h4⟩ ⟨t,cs',S',c',b',y1,d2,hx⟩
  simp only at y1 d2
  subst y1
  have d:=Hs.back (D1:=[_]) (R1:=[_]) d d2 (imA rfl)
  obtain ⟨k1,k2,k3,k4,k5,rfl⟩:=(d.rs (i:=1) rfl : TmG base (f + 1) S' h4 t _).form
  clear d1 d2
  ((try simp only [n1,n2,n3,n4,n5,n6] at d); (with_reducible repeat first|refine W.a1 d ?_|refine W.a2 ?_|refine W.a3 ?_|refine W.bo ?_|refine W.a5 d fun hw d lw kw=>?_|refine W.a6 d ?_|refine W.a7 ?_|refine W.a8 ?_); (refine W.nD d fun h6 d _ kh6=>?_); (with_reducible repeat first|refine W.a1 d ?_|refine W.a2 ?_|refine W.a3 ?_|refine W.bo ?_|refine W.a5 d fun hw d lw kw=>?_|refine W.a6 d ?_|refine W.a7 ?_|refine W.a8 ?_))
  obtain ⟨a5,h5,S5,e5,d,_,_,_⟩:=d.app1 (i:=2) (j:=1) (bytes:=56) (TmG.kp _ _) rfl rfl (by decide) (.head _) rfl (by decide) rfl (by omega) (by omega)
  refine W.bs e5 ?_
  ((try simp only [n1,n2,n3,n4,n5,n6] at d); (with_reducible repeat first|refine W.a1 d ?_|refine W.a2 ?_|refine W.a3 ?_|refine W.bo ?_|refine W.a5 d fun hw d lw kw=>?_|refine W.a6 d ?_|refine W.a7 ?_|refine W.a8 ?_))
  have d:=((((d.tl).frontR (Del.at (i:=2) rfl)).frontR (Del.at (i:=1) rfl)).takeR 2)
  obtain ⟨ad2,ea2,g'⟩:=(sA _ (d.rs (i:=0) rfl)).int (i:=1) (by simp)
  injection ea2 with ea2
  subst ea2
  refine W.bs g' ?_
  exact W.ret ⟨t,a5,c',b',S5,rfl,rfl,d,hx⟩
end Go.Proofs.Ytkdenmdijdmnjaa.Am
set_option linter.unusedSimpArgs false
set_option linter.unusedVariables false
namespace Go.Proofs.Ytkdenmdijdmnjaa.Am
open Go Go.RowKit
theorem l6Cons_run {base rb f : Nat} {G : Gn} {oa ya aa : Option Addr} {ats : List ByteArray} {w c : Int} {m : Bool} {S V : Fp} {A : AH→Prop} {h0 h : AH} (hG : G.Ok) (ho : G.old.length≤1000) (hwk : wOk w) (hf : f≤6) (hc : 0≤c∧c≤100) (hA : ∀ y,A y→RdA base oa ya G aa ats y) (ih : GetS base oa ya G aa ats f) (d : Hs base V h0 h [(rb,181,rdV oa ya G aa ats.length (100 - c) false)] [⟨S,m,A⟩]) :
  Wp (run (Et base) 197 [.pointer (at0 rb),.int .i64 w,.int .i64 ((f : Int) + 1)] h) fun o=>∃ t cs' S' c' b',o.1 = .agg cs'.toArray∧Hs base V h0 o.2 [(rb,181,rdV oa ya G aa ats.length (100 - c') b')] [⟨S,m,A⟩,⟨S',true,fun y=>TmG base (f + 2) S' y t cs'⟩]∧(match rdL G (rdT chkT G ats f) 20 w c with
   | some y=>t = .mk 5 0 ⟨#[]⟩ y.1∧c' = y.2∧b' = false
   | none=>b' = true):=by
 refine W.of (fun r hx=>Am.r197 hx) ?_
 ((try simp only [n1,n2,n3,n4,n5,n6] at d); (with_reducible repeat first|refine W.a1 d ?_|refine W.a2 ?_|refine W.a3 ?_|refine W.bo ?_|refine W.a5 d fun hw d lw kw=>?_|refine W.a6 d ?_|refine W.a7 ?_|refine W.a8 ?_); (refine W.nD d fun h1 d _ kh1=>?_); (with_reducible repeat first|refine W.a1 d ?_|refine W.a2 ?_|refine W.a3 ?_|refine W.bo ?_|refine W.a5 d fun hw d lw kw=>?_|refine W.a6 d ?_|refine W.a7 ?_|refine W.a8 ?_); (refine W.nD d fun h2 d _ kh2=>?_); (with_reducible repeat first|refine W.a1 d ?_|refine W.a2 ?_|refine W.a3 ?_|refine W.bo ?_|refine W.a5 d fun hw d lw kw=>?_|refine W.a6 d ?_|refine W.a7 ?_|refine W.a8 ?_))
 have d:=d.front (Del.at (i:=2) rfl)
 simp only [n5,n6] at d
 have d : Hs base V h0 hw [(rb,181,rdV oa ya G aa ats.length (100 - c) false),(h1.length,42,termV 5 0 ⟨#[]⟩ none 0),(h.length,42,termV 0 0 ⟨#[]⟩ none 0)] [⟨S,m,A⟩]:=d
 have d:=d.call (KB.refl NoB _) (fun _=>False) (fun y=>RowO base 42 4 (TmG base (f + 1)) (fun _=>False) y [] none) RowO.nil (fun U y y' k hs x=>x.keep (TmG.kp _ _) k hs) (fun _ h=>h.elim)
 refine W.wb (l6Cons_loop (base:=base) hG ho hf hA ih 20 _ w [] none c false _ hwk (by simp) (fun _=>hc) d) ?_
 rintro ⟨o1,o2,h4⟩ ⟨l',a2,c',b',S',hl,hd,hx⟩
 have fin : ∀ {h' : AH},Hs base V h0 h' [(rb,181,rdV oa ya G aa ats.length (100 - c') b')] [⟨S,m,A⟩,rTs base (f + 1) S' l' a2]→∃ t cs' S' c' b',Value.agg (termV 5 0 ⟨#[]⟩ a2 l'.length).toArray = .agg cs'.toArray∧Hs base V h0 h' [(rb,181,rdV oa ya G aa ats.length (100 - c') b')] [⟨S,m,A⟩,⟨S',true,fun y=>TmG base (f + 2) S' y t cs'⟩]∧(match rdL G (rdT chkT G ats f) 20 w c with
   | some y=>t = .mk 5 0 ⟨#[]⟩ y.1∧c' = y.2∧b' = false
   | none=>b' = true):=by
  intro h' d
  have row : RowO base 42 4 (TmG base (f + 1)) S' h' l' a2:=d.rs (i:=1) rfl
  have d:=d.re (r:=rTs base (f + 1) S' l' a2) (r':=⟨S',true,fun y=>TmG base (f + 2) S' y (.mk 5 0 ⟨#[]⟩ l') (termV 5 0 ⟨#[]⟩ a2 l'.length)⟩) (Upd.at (i:=1) rfl) rfl rfl ⟨by decide,Nat.le_trans hl (by decide),a2,rfl,row⟩ (fun U y y' k hs x=>TmG.kp _ _ _ U y y' _ _ k hs x) (fun b hb=>hb)
  refine ⟨.mk 5 0 ⟨#[]⟩ l',termV 5 0 ⟨#[]⟩ a2 l'.length,S',c',b',rfl,d,?_⟩
  unfold OutL at hx
  simp only [Bool.false_eq_true,if_false] at hx
  cases e1 : rdL G (rdT chkT G ats f) 20 w c with
  | none=>rw [e1] at hx; exact hx
  | some y=>
   rw [e1] at hx
   obtain ⟨i1,i2,i3⟩:=hx
   exact ⟨by rw [i1]; rfl,i2,i3⟩
 simp only at hd
 rcases hd with ⟨e1,e2,d⟩|⟨e1,e2,d⟩
 ·subst e1; subst e2
  refine W.ifF (show ¬ (2 : Nat) = 1 by decide) (W.ifT rfl ?_)
  ((try simp only [n1,n2,n3,n4,n5,n6] at d); (with_reducible repeat first|refine W.a1 d ?_|refine W.a2 ?_|refine W.a3 ?_|refine W.bo ?_|refine W.a5 d fun hw d lw kw=>?_|refine W.a6 d ?_|refine W.a7 ?_|refine W.a8 ?_))
  exact W.ret (fin (d.takeD 1))
 ·subst e1; subst e2
  refine W.ifT rfl ?_
  ((try simp only [n1,n2,n3,n4,n5,n6] at d); (with_reducible repeat first|refine W.a1 d ?_|refine W.a2 ?_|refine W.a3 ?_|refine W.bo ?_|refine W.a5 d fun hw d lw kw=>?_|refine W.a6 d ?_|refine W.a7 ?_|refine W.a8 ?_))
  exact W.ret (fin (d.takeD 1))
abbrev l5V (aa : Option Addr) (n : Nat) (left : Int) (b : Bool) : List Value:=[.slice none 0 0,.slice aa n n,.int .i64 left,.bool b]
def coreL (ats : List ByteArray) (w : Int) : Option Tm:=if tagW w = 0 then (if valW w≤2000000 then some (.mk 1 (valW w - 1000000) ⟨#[]⟩ []) else none) else if tagW w = 1 then (ats[(valW w).toNat]?).map fun s=>.mk 2 0 s [] else if tagW w = 2 then some (.mk 3 (valW w) ⟨#[]⟩ []) else none
theorem l5Read_leaf {base pb f : Nat} {G : Gn} {oa ya aa : Option Addr} {ats : List ByteArray} {w : Int} {m : Bool} {S V : Fp} {A : AH→Prop} {h0 h : AH} (hs : ∀ s ∈ ats,s.size≤maxLen) (hal : ats.length≤1048576) (hw : wOk w) (h0w : ¬ w < 0) (ht : tagW w ≠ 3∧tagW w ≠ 4∧tagW w ≠ 5∧tagW w ≠ 6) (hA : ∀ y,A y→RdA base oa ya G aa ats y) (d : Hs base V h0 h [(pb,213,l5V aa ats.length 1 false)] [⟨S,m,A⟩]) :
  Wp (run (Et base) 200 [.pointer (at0 pb),.int .i64 w,.int .i64 1] h) fun o=>∃ t cs' b',o.1 = .agg cs'.toArray∧Hs base V h0 o.2 [(pb,213,l5V aa ats.length 0 b')] [⟨S,m,A⟩]∧(∀ y,TmG base (f + 1) (fun _=>False) y t cs')∧(match coreL ats w with
   | some y=>t = y∧b' = false
   | none=>b' = true):=by
 have vnn:=valW_nn w
 have vle:=valW_le hw
 refine W.of (fun r hx=>Am.r200 hx) ?_
 ((try simp only [n1,n2,n3,n4,n5,n6] at d); (with_reducible repeat first|refine W.a1 d ?_|refine W.a2 ?_|refine W.a3 ?_|refine W.bo ?_|refine W.a5 d fun hw d lw kw=>?_|refine W.a6 d ?_|refine W.a7 ?_|refine W.a8 ?_); (refine W.nD d fun h1 d _ kh1=>?_); (with_reducible repeat first|refine W.a1 d ?_|refine W.a2 ?_|refine W.a3 ?_|refine W.bo ?_|refine W.a5 d fun hw d lw kw=>?_|refine W.a6 d ?_|refine W.a7 ?_|refine W.a8 ?_))
 refine W.bs (specVal_run hw.2) ?_
 ((try simp only [n1,n2,n3,n4,n5,n6] at d); (with_reducible repeat first|refine W.a1 d ?_|refine W.a2 ?_|refine W.a3 ?_|refine W.bo ?_|refine W.a5 d fun hw d lw kw=>?_|refine W.a6 d ?_|refine W.a7 ?_|refine W.a8 ?_))
 rw [show IntKind.i64.wrap ((1 : Int) - 1) = 0 from by decide] at d
 apply W.jb false d
 ·refine W.ifF (by simpa using h0w) (W.ifF (by decide) ?_)
  ((try simp only [n1,n2,n3,n4,n5,n6] at d); (with_reducible repeat first|refine W.a1 d ?_|refine W.a2 ?_|refine W.a3 ?_|refine W.bo ?_|refine W.a5 d fun hw d lw kw=>?_|refine W.a6 d ?_|refine W.a7 ?_|refine W.a8 ?_))
  exact W.lb rfl rfl (KB.refl _ _)
 intro h2 d n2
 ((try simp only [n1,n2,n3,n4,n5,n6] at d); (with_reducible repeat first|refine W.a1 d ?_|refine W.a2 ?_|refine W.a3 ?_|refine W.bo ?_|refine W.a5 d fun hw d lw kw=>?_|refine W.a6 d ?_|refine W.a7 ?_|refine W.a8 ?_))
 refine W.ifF (by decide) ?_
 have leafT : ∀ (k n : Int) (s : ByteArray),s.size≤maxLen→∀ y,TmG base (f + 1) (fun _=>False) y (.mk k n s []) (termV k n s none 0):=fun k n s h y=>⟨h,by decide,none,rfl,RowO.nil⟩
 refine W.joinP (fun q=>q.1 = [some (.pointer (at0 pb)),some (.pointer (at0 h.length))]∧Hs base V h0 q.2 [(h.length,42,termV 0 0 ⟨#[]⟩ none 0),(pb,213,l5V aa ats.length 0 false)] [⟨S,m,A⟩]∧coreL ats w = none) ?_ fun q hq=>?_
 ·refine W.bs specTag_run ?_
  ((try simp only [n1,n2,n3,n4,n5,n6] at d); (with_reducible repeat first|refine W.a1 d ?_|refine W.a2 ?_|refine W.a3 ?_|refine W.bo ?_|refine W.a5 d fun hw d lw kw=>?_|refine W.a6 d ?_|refine W.a7 ?_|refine W.a8 ?_))
  refine W.ite (fun t0=>?_) (fun t0=>?_)
  ·have t0 : tagW w = 0:=by simpa using t0
   have hc : coreL ats w = if valW w≤2000000 then some (.mk 1 (valW w - 1000000) ⟨#[]⟩ []) else none:=by unfold coreL; rw [if_pos t0]
   ((try simp only [n1,n2,n3,n4,n5,n6] at d); (with_reducible repeat first|refine W.a1 d ?_|refine W.a2 ?_|refine W.a3 ?_|refine W.bo ?_|refine W.a5 d fun hw d lw kw=>?_|refine W.a6 d ?_|refine W.a7 ?_|refine W.a8 ?_))
   refine W.joinP (fun q=>q.1 = [some (.pointer (at0 h.length)),some (.int .i64 (valW w))]∧Hs base V h0 q.2 [(h.length,42,termV 0 0 ⟨#[]⟩ none 0),(pb,213,l5V aa ats.length 0 (decide (valW w > 2000000)))] [⟨S,m,A⟩]) ?_ fun q hq=>?_
   ·((try simp only [n1,n2,n3,n4,n5,n6] at d); (with_reducible repeat first|refine W.a1 d ?_|refine W.a2 ?_|refine W.a3 ?_|refine W.bo ?_|refine W.a5 d fun hw d lw kw=>?_|refine W.a6 d ?_|refine W.a7 ?_|refine W.a8 ?_))
    refine W.ifF (by decide) ?_
    ((try simp only [n1,n2,n3,n4,n5,n6] at d); (with_reducible repeat first|refine W.a1 d ?_|refine W.a2 ?_|refine W.a3 ?_|refine W.bo ?_|refine W.a5 d fun hw d lw kw=>?_|refine W.a6 d ?_|refine W.a7 ?_|refine W.a8 ?_))
    exact W.inl ⟨rfl,d⟩
   obtain ⟨q1,h3⟩:=q
   obtain ⟨e,d⟩:=hq
   simp only at e d
   subst e
   ((try simp only [n1,n2,n3,n4,n5,n6] at d); (with_reducible repeat first|refine W.a1 d ?_|refine W.a2 ?_|refine W.a3 ?_|refine W.bo ?_|refine W.a5 d fun hw d lw kw=>?_|refine W.a6 d ?_|refine W.a7 ?_|refine W.a8 ?_))
   refine W.mp ?_
   ((try simp only [n1,n2,n3,n4,n5,n6] at d); (with_reducible repeat first|refine W.a1 d ?_|refine W.a2 ?_|refine W.a3 ?_|refine W.bo ?_|refine W.a5 d fun hw d lw kw=>?_|refine W.a6 d ?_|refine W.a7 ?_|refine W.a8 ?_))
   rw [w64i (n:=valW w - 1000000) (by omega) (by omega)]
   refine W.ret ⟨.mk 1 (valW w - 1000000) ⟨#[]⟩ [],_,_,rfl,d.tl,leafT _ _ _ (by decide),?_⟩
   rw [hc]
   by_cases hv : valW w≤2000000
   ·rw [if_pos hv]; exact ⟨rfl,by simp; omega⟩
   ·rw [if_neg hv]; simp; omega
  have t0 : ¬ tagW w = 0:=by simpa using t0
  refine W.ite (fun t1=>?_) (fun t1=>?_)
  ·have t1 : tagW w = 1:=by simpa using t1
   have hc : coreL ats w = (ats[(valW w).toNat]?).map fun s=>.mk 2 0 s []:=by unfold coreL; rw [if_neg t0,if_pos t1]
   ((try simp only [n1,n2,n3,n4,n5,n6] at d); (with_reducible repeat first|refine W.a1 d ?_|refine W.a2 ?_|refine W.a3 ?_|refine W.bo ?_|refine W.a5 d fun hw d lw kw=>?_|refine W.a6 d ?_|refine W.a7 ?_|refine W.a8 ?_))
   refine W.ite (fun c1=>?_) (fun c1=>?_)
   ·have c1 : valW w < (ats.length : Int):=by simpa using c1
    have hlt : (valW w).toNat < ats.length:=by omega
    ((try simp only [n1,n2,n3,n4,n5,n6] at d); (with_reducible repeat first|refine W.a1 d ?_|refine W.a2 ?_|refine W.a3 ?_|refine W.bo ?_|refine W.a5 d fun hw d lw kw=>?_|refine W.a6 d ?_|refine W.a7 ?_|refine W.a8 ?_))
    obtain ⟨ad,ea,g⟩:=(hA _ (d.rs (i:=0) rfl)).2.2.2.2.cell (i:=(valW w).toNat) (v:=.string ats[(valW w).toNat]) (by simp [hlt])
    subst ea
    refine W.bs rfl (W.bT (by rw [Nat.mul_one]; exact g) ?_)
    ((try simp only [n1,n2,n3,n4,n5,n6] at d); (with_reducible repeat first|refine W.a1 d ?_|refine W.a2 ?_|refine W.a3 ?_|refine W.bo ?_|refine W.a5 d fun hw d lw kw=>?_|refine W.a6 d ?_|refine W.a7 ?_|refine W.a8 ?_))
    refine W.mp ?_
    ((try simp only [n1,n2,n3,n4,n5,n6] at d); (with_reducible repeat first|refine W.a1 d ?_|refine W.a2 ?_|refine W.a3 ?_|refine W.bo ?_|refine W.a5 d fun hw d lw kw=>?_|refine W.a6 d ?_|refine W.a7 ?_|refine W.a8 ?_))
    refine W.ret ⟨.mk 2 0 ats[(valW w).toNat] [],_,_,rfl,d.tl,leafT _ _ _ (hs _ (List.getElem_mem _)),?_⟩
    rw [hc,List.getElem?_eq_getElem hlt]
    exact ⟨rfl,rfl⟩
   ·have c1 : ¬ valW w < (ats.length : Int):=by simpa using c1
    refine W.inl ⟨rfl,d,?_⟩
    rw [hc,List.getElem?_eq_none_iff.2 (by omega)]
    rfl
  have t1 : ¬ tagW w = 1:=by simpa using t1
  refine W.ite (fun t2=>?_) (fun t2=>?_)
  ·have t2 : tagW w = 2:=by simpa using t2
   have hc : coreL ats w = some (.mk 3 (valW w) ⟨#[]⟩ []):=by unfold coreL; rw [if_neg t0,if_neg t1,if_pos t2]
   ((try simp only [n1,n2,n3,n4,n5,n6] at d); (with_reducible repeat first|refine W.a1 d ?_|refine W.a2 ?_|refine W.a3 ?_|refine W.bo ?_|refine W.a5 d fun hw d lw kw=>?_|refine W.a6 d ?_|refine W.a7 ?_|refine W.a8 ?_))
   refine W.mp ?_
   ((try simp only [n1,n2,n3,n4,n5,n6] at d); (with_reducible repeat first|refine W.a1 d ?_|refine W.a2 ?_|refine W.a3 ?_|refine W.bo ?_|refine W.a5 d fun hw d lw kw=>?_|refine W.a6 d ?_|refine W.a7 ?_|refine W.a8 ?_))
   refine W.ret ⟨.mk 3 (valW w) ⟨#[]⟩ [],_,_,rfl,d.tl,leafT _ _ _ (by decide),?_⟩
   rw [hc]
   exact ⟨rfl,rfl⟩
  have t2 : ¬ tagW w = 2:=by simpa using t2
  have hc : coreL ats w = none:=by unfold coreL; rw [if_neg t0,if_neg t1,if_neg t2]
  obtain ⟨t3,t4,t5,t6⟩:=ht
  apply W.jb false d
  ·refine W.ifF (by simpa using t3) (W.lb rfl (by simp [t5]) (KB.refl _ _))
  intro h3 d n3
  ((try simp only [n1,n2,n3,n4,n5,n6] at d); (with_reducible repeat first|refine W.a1 d ?_|refine W.a2 ?_|refine W.a3 ?_|refine W.bo ?_|refine W.a5 d fun hw d lw kw=>?_|refine W.a6 d ?_|refine W.a7 ?_|refine W.a8 ?_))
  refine W.ifF (by decide) (W.ifF (by simpa using t4) (W.ifF (by simpa using t6) ?_))
  exact W.inl ⟨rfl,d,hc⟩
 obtain ⟨q1,h3⟩:=q
 obtain ⟨e,d,hc⟩:=hq
 simp only at e d
 subst e
 ((try simp only [n1,n2,n3,n4,n5,n6] at d); (with_reducible repeat first|refine W.a1 d ?_|refine W.a2 ?_|refine W.a3 ?_|refine W.bo ?_|refine W.a5 d fun hw d lw kw=>?_|refine W.a6 d ?_|refine W.a7 ?_|refine W.a8 ?_))
 refine W.ret ⟨.mk 0 0 ⟨#[]⟩ [],_,_,rfl,d.tl,leafT _ _ _ (by decide),?_⟩
 rw [hc]
end Go.Proofs.Ytkdenmdijdmnjaa.Am
set_option linter.unusedSimpArgs false
set_option linter.unusedVariables false
namespace Go.Proofs.Ytkdenmdijdmnjaa.Am
open Go Go.RowKit
def coreT (G : Gn) (ats : List ByteArray) (f : Nat) (w c : Int) : Option (Tm × Int):=
 if tagW w = 4 then (core4 G ats f (valW w) (c + 1)).bind fun y=>some (Tm.mk 4 0 ⟨#[]⟩ y.1,y.2)
 else if tagW w = 6 then ((gwd G (valW w)).bind fun n=>if inB n 0 40 = true then (rdB G n.toNat (valW w + 1)).bind fun y=>some (Tm.mk 6 0 (bstr y) []) else none).bind fun y=>some (y,c + 1)
 else if tagW w = 3 ∨ tagW w = 5 then (rdL G (rdT chkT G ats f) 20 w (c + 1)).bind fun y=>some (Tm.mk 5 0 ⟨#[]⟩ y.1,y.2)
 else (coreL ats w).bind fun y=>some (y,c + 1)
theorem rdT_coreT {G : Gn} {ats : List ByteArray} {f : Nat} {w c : Int} (h1 : ¬ w < 0) (h2 : c < 100) : rdT chkT G ats (f + 1) w c = coreT G ats f w c:=by
 have hl:=tagW_lt w
 rw [rdT,if_neg (by omega)]
 have hb : ∀ x : Option (Tm × Int),(x.bind fun y=>if chkT y.1 = true then some y else none) = x:=fun x=>by cases x <;> rfl
 rw [hb]
 unfold coreT core4 coreL
 by_cases t0 : tagW w = 0
 ·rw [if_pos t0,if_neg (show ¬ tagW w = 4 by omega),if_neg (show ¬ tagW w = 6 by omega),if_neg (show ¬ (tagW w = 3 ∨ tagW w = 5) by omega),if_pos t0]
  split <;> rfl
 rw [if_neg t0]
 by_cases t1 : tagW w = 1
 ·rw [if_pos t1,if_neg (by omega),if_neg (by omega),if_neg (by omega),if_neg t0,if_pos t1]
  cases ats[(valW w).toNat]? <;> rfl
 rw [if_neg t1]
 by_cases t2 : tagW w = 2
 ·rw [if_pos t2,if_neg (by omega),if_neg (by omega),if_neg (by omega),if_neg t0,if_neg t1,if_pos t2]
  rfl
 rw [if_neg t2]
 by_cases t4 : tagW w = 4
 ·rw [if_pos t4,if_pos t4]
  cases gwd G (valW w) with
  | none=>rfl
  | some n=>
   simp only [Option.bind_some]
   split
   ·rfl
   ·rfl
 rw [if_neg t4,if_neg t4]
 by_cases t6 : tagW w = 6
 ·rw [if_pos t6,if_pos t6]
  cases gwd G (valW w) with
  | none=>rfl
  | some n=>
   simp only [Option.bind_some]
   split
   ·cases rdB G n.toNat (valW w + 1) <;> rfl
   ·rfl
 rw [if_neg t6,if_neg t6]
 by_cases t7 : tagW w = 7
 ·rw [if_pos t7,if_neg (by omega),if_neg t0,if_neg t1,if_neg t2]; rfl
 rw [if_neg t7,if_pos (by omega)]
theorem getS_zero {base : Nat} {oa ya : Option Addr} {G : Gn} {aa : Option Addr} {ats : List ByteArray} : GetS base oa ya G aa ats 0:=by
 intro rb w c m S V A h0 h hwk hc hA d
 refine W.of (fun r hx=>Am.r162 hx) ?_
 ((try simp only [n1,n2,n3,n4,n5,n6] at d); (with_reducible repeat first|refine W.a1 d ?_|refine W.a2 ?_|refine W.a3 ?_|refine W.bo ?_|refine W.a5 d fun hw d lw kw=>?_|refine W.a6 d ?_|refine W.a7 ?_|refine W.a8 ?_); (refine W.nD d fun h1 d _ kh1=>?_); (with_reducible repeat first|refine W.a1 d ?_|refine W.a2 ?_|refine W.a3 ?_|refine W.bo ?_|refine W.a5 d fun hw d lw kw=>?_|refine W.a6 d ?_|refine W.a7 ?_|refine W.a8 ?_))
 apply W.jb true d
 ·refine W.ite (fun c1=>W.lb rfl rfl (KB.refl _ _)) (fun c1=>?_)
  exact W.ifT (by decide) (W.lb rfl rfl (KB.refl _ _))
 intro h2 d n2
 ((try simp only [n1,n2,n3,n4,n5,n6] at d); (with_reducible repeat first|refine W.a1 d ?_|refine W.a2 ?_|refine W.a3 ?_|refine W.bo ?_|refine W.a5 d fun hw d lw kw=>?_|refine W.a6 d ?_|refine W.a7 ?_|refine W.a8 ?_))
 refine W.ifT (by decide) ?_
 ((try simp only [n1,n2,n3,n4,n5,n6] at d); (with_reducible repeat first|refine W.a1 d ?_|refine W.a2 ?_|refine W.a3 ?_|refine W.bo ?_|refine W.a5 d fun hw d lw kw=>?_|refine W.a6 d ?_|refine W.a7 ?_|refine W.a8 ?_))
 rw [w64i (n:=100 - c - 1) (by omega) (by omega),show 100 - c - 1 = 100 - (c + 1) from by omega] at d
 have d:=(d.tl).call (KB.refl NoB _) (fun _=>False) (fun y=>TmG base (0 + 1) (fun _=>False) y tmZ (termV 0 0 ⟨#[]⟩ none 0)) tmZ_G (fun U y y' k hs x=>TmG.kp _ _ _ U y y' _ _ k hs x) (fun _ h=>h.elim)
 exact W.ret ⟨tmZ,termV 0 0 ⟨#[]⟩ none 0,_,_,true,rfl,d,by unfold OutT rdT; rfl⟩
theorem getS_succ {base f : Nat} {oa ya : Option Addr} {G : Gn} {aa : Option Addr} {ats : List ByteArray} (hG : G.Ok) (ho : G.old.length≤1000) (ha : ats.length≤1048576) (hs : ∀ s ∈ ats,s.size≤maxLen) (hf : f≤5) (ih : GetS base oa ya G aa ats f) : GetS base oa ya G aa ats (f + 1):=by
 intro rb w c m S V A h0 h hwk hc hA d
 have vnn:=valW_nn w
 have tlt:=tagW_lt w
 rw [show ((f + 1 : Nat) : Int) = (f : Int) + 1 from by omega]
 refine W.of (fun r hx=>Am.r162 hx) ?_
 ((try simp only [n1,n2,n3,n4,n5,n6] at d); (with_reducible repeat first|refine W.a1 d ?_|refine W.a2 ?_|refine W.a3 ?_|refine W.bo ?_|refine W.a5 d fun hw d lw kw=>?_|refine W.a6 d ?_|refine W.a7 ?_|refine W.a8 ?_); (refine W.nD d fun h1 d _ kh1=>?_); (with_reducible repeat first|refine W.a1 d ?_|refine W.a2 ?_|refine W.a3 ?_|refine W.bo ?_|refine W.a5 d fun hw d lw kw=>?_|refine W.a6 d ?_|refine W.a7 ?_|refine W.a8 ?_))
 rw [w64i (n:=100 - c - 1) (by omega) (by omega),show 100 - c - 1 = 100 - (c + 1) from by omega] at d
 apply W.jb (decide (w < 0) || decide (100≤c)) d
 ·refine W.ite (fun c1=>?_) (fun c1=>?_)
  ·refine W.lb rfl ?_ (KB.refl _ _)
   rw [c1]; rfl
  ·have c1 : decide (w < 0) = false:=by simpa using c1
   refine W.ifF (by simp; omega) ?_
   ((try simp only [n1,n2,n3,n4,n5,n6] at d); (with_reducible repeat first|refine W.a1 d ?_|refine W.a2 ?_|refine W.a3 ?_|refine W.bo ?_|refine W.a5 d fun hw d lw kw=>?_|refine W.a6 d ?_|refine W.a7 ?_|refine W.a8 ?_))
   refine W.lb rfl ?_ (KB.refl _ _)
   rw [c1]
   simp only [Bool.false_or,List.getLast?_cons_cons,List.getLast?_singleton]
   congr 3
   exact decide_eq_decide.2 (by omega)
 intro h2 d n2
 ((try simp only [n1,n2,n3,n4,n5,n6] at d); (with_reducible repeat first|refine W.a1 d ?_|refine W.a2 ?_|refine W.a3 ?_|refine W.bo ?_|refine W.a5 d fun hw d lw kw=>?_|refine W.a6 d ?_|refine W.a7 ?_|refine W.a8 ?_))
 refine W.ite (fun cb=>?_) (fun cb=>?_)
 ·((try simp only [n1,n2,n3,n4,n5,n6] at d); (with_reducible repeat first|refine W.a1 d ?_|refine W.a2 ?_|refine W.a3 ?_|refine W.bo ?_|refine W.a5 d fun hw d lw kw=>?_|refine W.a6 d ?_|refine W.a7 ?_|refine W.a8 ?_))
  have d:=(d.tl).call (KB.refl NoB _) (fun _=>False) (fun y=>TmG base (f + 1 + 1) (fun _=>False) y tmZ (termV 0 0 ⟨#[]⟩ none 0)) tmZ_G (fun U y y' k hs x=>TmG.kp _ _ _ U y y' _ _ k hs x) (fun _ h=>h.elim)
  refine W.ret ⟨tmZ,termV 0 0 ⟨#[]⟩ none 0,_,_,true,rfl,d,?_⟩
  have cb : w < 0 ∨ 100≤c:=by simpa using cb
  unfold OutT
  rw [rdT,if_pos cb]
  simp
 have cb : ¬ w < 0∧c < 100:=by
  have : decide (w < 0) = false∧decide (100≤c) = false:=by simpa using cb
  have h1:=of_decide_eq_false this.1
  have h2:=of_decide_eq_false this.2
  omega
 obtain ⟨h1w,h3w⟩:=cb
 refine W.bs specTag_run ?_
 ((try simp only [n1,n2,n3,n4,n5,n6] at d); (with_reducible repeat first|refine W.a1 d ?_|refine W.a2 ?_|refine W.a3 ?_|refine W.bo ?_|refine W.a5 d fun hw d lw kw=>?_|refine W.a6 d ?_|refine W.a7 ?_|refine W.a8 ?_))
 apply W.jb (decide (tagW w = 3 ∨ tagW w = 5)) d
 ·refine W.ite (fun c1=>?_) (fun c1=>?_)
  ·have c1 : tagW w = 3:=by simpa using c1
   exact W.lb rfl (by simp [c1]) (KB.refl _ _)
  ·have c1 : ¬ tagW w = 3:=by simpa using c1
   refine W.lb rfl ?_ (KB.refl _ _)
   by_cases c5 : tagW w = 5
   ·simp [c5]
   ·simp [c1,c5]
 intro h3 d n3
 ((try simp only [n1,n2,n3,n4,n5,n6] at d); (with_reducible repeat first|refine W.a1 d ?_|refine W.a2 ?_|refine W.a3 ?_|refine W.bo ?_|refine W.a5 d fun hw d lw kw=>?_|refine W.a6 d ?_|refine W.a7 ?_|refine W.a8 ?_))
 have d:=d.front (Del.at (i:=1) rfl)
 simp only [n5,n6] at d
 refine W.ite (fun t3=>?_) (fun t3=>?_)
 ·have t3 : tagW w = 3 ∨ tagW w = 5:=by simpa using t3
  have d1:=Hs.part (D1:=[_]) (R1:=[_]) d
  refine W.wb (l6Cons_run (c:=c + 1) hG ho hwk (by omega) (by omega) hA ih d1) ?_
  rintro ⟨u,h4⟩ ⟨t,cs',S',c',b',y1,d2,hx⟩
  simp only at y1 d2
  subst y1
  have d:=Hs.back (D1:=[_]) (R1:=[_]) d d2 (imA rfl)
  obtain ⟨k1,k2,k3,k4,k5,rfl⟩:=(d.rs (i:=1) rfl : TmG base (f + 2) S' h4 t _).form
  clear d1 d2
  ((try simp only [n1,n2,n3,n4,n5,n6] at d); (with_reducible repeat first|refine W.a1 d ?_|refine W.a2 ?_|refine W.a3 ?_|refine W.bo ?_|refine W.a5 d fun hw d lw kw=>?_|refine W.a6 d ?_|refine W.a7 ?_|refine W.a8 ?_))
  refine W.ret ⟨t,_,S',c',b',rfl,d.takeD 1,?_⟩
  unfold OutT
  rw [if_neg (by decide),rdT_coreT h1w h3w,show coreT G ats f w c = (rdL G (rdT chkT G ats f) 20 w (c + 1)).bind fun y=>some (Tm.mk 5 0 ⟨#[]⟩ y.1,y.2) from by unfold coreT; rw [if_neg (by omega),if_neg (by omega),if_pos t3]]
  cases e1 : rdL G (rdT chkT G ats f) 20 w (c + 1) with
  | none=>rw [e1] at hx; exact hx
  | some y=>rw [e1] at hx; exact hx
 have t3 : ¬ (tagW w = 3 ∨ tagW w = 5):=by simpa using t3
 refine W.ite (fun t4=>?_) (fun t4=>?_)
 ·have t4 : tagW w = 4:=by simpa using t4
  refine W.bs (specVal_run hwk.2) ?_
  ((try simp only [n1,n2,n3,n4,n5,n6] at d); (with_reducible repeat first|refine W.a1 d ?_|refine W.a2 ?_|refine W.a3 ?_|refine W.bo ?_|refine W.a5 d fun hw d lw kw=>?_|refine W.a6 d ?_|refine W.a7 ?_|refine W.a8 ?_))
  have d1:=Hs.part (D1:=[_]) (R1:=[_]) d
  refine W.wb (l6Tuple_run (c:=c + 1) hG ho ⟨vnn,valW_ok hwk⟩ (by omega) (by omega) hA ih d1) ?_
  rintro ⟨u,h4⟩ ⟨t,cs',S',c',b',y1,d2,hx⟩
  simp only at y1 d2
  subst y1
  have d:=Hs.back (D1:=[_]) (R1:=[_]) d d2 (imA rfl)
  obtain ⟨k1,k2,k3,k4,k5,rfl⟩:=(d.rs (i:=1) rfl : TmG base (f + 2) S' h4 t _).form
  clear d1 d2
  ((try simp only [n1,n2,n3,n4,n5,n6] at d); (with_reducible repeat first|refine W.a1 d ?_|refine W.a2 ?_|refine W.a3 ?_|refine W.bo ?_|refine W.a5 d fun hw d lw kw=>?_|refine W.a6 d ?_|refine W.a7 ?_|refine W.a8 ?_))
  refine W.ret ⟨t,_,S',c',b',rfl,d.takeD 1,?_⟩
  unfold OutT
  rw [if_neg (by decide),rdT_coreT h1w h3w,show coreT G ats f w c = (core4 G ats f (valW w) (c + 1)).bind fun y=>some (Tm.mk 4 0 ⟨#[]⟩ y.1,y.2) from by unfold coreT; rw [if_pos t4]]
  cases e1 : core4 G ats f (valW w) (c + 1) with
  | none=>rw [e1] at hx; exact hx
  | some y=>rw [e1] at hx; exact hx
 have t4 : ¬ tagW w = 4:=by simpa using t4
 refine W.ite (fun t6=>?_) (fun t6=>?_)
 ·have t6 : tagW w = 6:=by simpa using t6
  refine W.bs (specVal_run hwk.2) ?_
  ((try simp only [n1,n2,n3,n4,n5,n6] at d); (with_reducible repeat first|refine W.a1 d ?_|refine W.a2 ?_|refine W.a3 ?_|refine W.bo ?_|refine W.a5 d fun hw d lw kw=>?_|refine W.a6 d ?_|refine W.a7 ?_|refine W.a8 ?_))
  have d1:=Hs.part (D1:=[_]) (R1:=[_]) d
  refine W.wb (l6Bin_run (f:=f + 1) hG ho ⟨vnn,valW_ok hwk⟩ hA d1) ?_
  rintro ⟨u,h4⟩ ⟨t,cs',S',b',y1,d2,hx⟩
  simp only at y1 d2
  subst y1
  have d:=Hs.back (D1:=[_]) (R1:=[_]) d d2 (imA rfl)
  obtain ⟨k1,k2,k3,k4,k5,rfl⟩:=(d.rs (i:=1) rfl : TmG base (f + 2) S' h4 t _).form
  clear d1 d2
  ((try simp only [n1,n2,n3,n4,n5,n6] at d); (with_reducible repeat first|refine W.a1 d ?_|refine W.a2 ?_|refine W.a3 ?_|refine W.bo ?_|refine W.a5 d fun hw d lw kw=>?_|refine W.a6 d ?_|refine W.a7 ?_|refine W.a8 ?_))
  refine W.ret ⟨t,_,S',c + 1,b',rfl,d.takeD 1,?_⟩
  unfold OutT
  rw [if_neg (by decide),rdT_coreT h1w h3w,show coreT G ats f w c = ((gwd G (valW w)).bind fun n=>if inB n 0 40 = true then (rdB G n.toNat (valW w + 1)).bind fun y=>some (Tm.mk 6 0 (bstr y) []) else none).bind fun y=>some (y,c + 1) from by unfold coreT; rw [if_neg t4,if_pos t6]]
  cases e1 : (gwd G (valW w)).bind fun n=>if inB n 0 40 = true then (rdB G n.toNat (valW w + 1)).bind fun y=>some (Tm.mk 6 0 (bstr y) []) else none with
  | none=>rw [e1] at hx; exact hx
  | some y=>rw [e1] at hx; exact ⟨hx.1,rfl,hx.2⟩
 have t6 : ¬ tagW w = 6:=by simpa using t6
 ((try simp only [n1,n2,n3,n4,n5,n6] at d); (with_reducible repeat first|refine W.a1 d ?_|refine W.a2 ?_|refine W.a3 ?_|refine W.bo ?_|refine W.a5 d fun hw d lw kw=>?_|refine W.a6 d ?_|refine W.a7 ?_|refine W.a8 ?_); (refine W.nD d fun h4 d _ kh4=>?_); (with_reducible repeat first|refine W.a1 d ?_|refine W.a2 ?_|refine W.a3 ?_|refine W.bo ?_|refine W.a5 d fun hw d lw kw=>?_|refine W.a6 d ?_|refine W.a7 ?_|refine W.a8 ?_))
 have d1:=Hs.part (D1:=[_]) (R1:=[_]) d
 refine W.wb (l5Read_leaf (f:=f + 1) hs ha hwk h1w ⟨by omega,by omega,by omega,by omega⟩ hA d1) ?_
 rintro ⟨u,h5⟩ ⟨t,cs',b',y1,d2,tg,hx⟩
 simp only at y1 d2
 subst y1
 have d:=Hs.back (D1:=[_]) (R1:=[_]) d d2 (fun r hr hm=>⟨r,hr,hm,rfl⟩)
 obtain ⟨k1,k2,k3,k4,k5,rfl⟩:=(tg h5).form
 clear d1 d2
 ((try simp only [n1,n2,n3,n4,n5,n6] at d); (with_reducible repeat first|refine W.a1 d ?_|refine W.a2 ?_|refine W.a3 ?_|refine W.bo ?_|refine W.a5 d fun hw d lw kw=>?_|refine W.a6 d ?_|refine W.a7 ?_|refine W.a8 ?_); (refine W.nD d fun h6 d _ kh6=>?_); (with_reducible repeat first|refine W.a1 d ?_|refine W.a2 ?_|refine W.a3 ?_|refine W.bo ?_|refine W.a5 d fun hw d lw kw=>?_|refine W.a6 d ?_|refine W.a7 ?_|refine W.a8 ?_))
 have d : Hs base V h0 hw [(h5.length,42,termV k1 k2 k3 k4 k5),(h3.length,213,l5V aa ats.length 0 b'),(rb,181,rdV oa ya G aa ats.length (100 - (c + 1)) false),(h.length,42,termV 0 0 ⟨#[]⟩ none 0)] [⟨S,m,A⟩]:=d
 refine W.joinP (fun q=>q.1 = [some (.pointer (at0 h.length)),some (.pointer (at0 h5.length))]∧Hs base V h0 q.2 [(h5.length,42,termV k1 k2 k3 k4 k5),(h3.length,213,l5V aa ats.length 0 b'),(rb,181,rdV oa ya G aa ats.length (100 - (c + 1)) b'),(h.length,42,termV 0 0 ⟨#[]⟩ none 0)] [⟨S,m,A⟩]) ?_ fun q hq=>?_
 ·((try simp only [n1,n2,n3,n4,n5,n6] at d); (with_reducible repeat first|refine W.a1 d ?_|refine W.a2 ?_|refine W.a3 ?_|refine W.bo ?_|refine W.a5 d fun hw d lw kw=>?_|refine W.a6 d ?_|refine W.a7 ?_|refine W.a8 ?_))
  refine W.ifF (by decide) ?_
  ((try simp only [n1,n2,n3,n4,n5,n6] at d); (with_reducible repeat first|refine W.a1 d ?_|refine W.a2 ?_|refine W.a3 ?_|refine W.bo ?_|refine W.a5 d fun hw d lw kw=>?_|refine W.a6 d ?_|refine W.a7 ?_|refine W.a8 ?_))
  exact W.inl ⟨rfl,d⟩
 obtain ⟨q1,h7⟩:=q
 obtain ⟨e,d⟩:=hq
 simp only at e d
 subst e
 ((try simp only [n1,n2,n3,n4,n5,n6] at d); (with_reducible repeat first|refine W.a1 d ?_|refine W.a2 ?_|refine W.a3 ?_|refine W.bo ?_|refine W.a5 d fun hw d lw kw=>?_|refine W.a6 d ?_|refine W.a7 ?_|refine W.a8 ?_))
 have d:=(((d.tl).tl).takeD 1).call (KB.refl NoB _) (fun _=>False) (fun y=>TmG base (f + 2) (fun _=>False) y t (termV k1 k2 k3 k4 k5)) (tg _) (fun U y y' k hs x=>TmG.kp _ _ _ U y y' _ _ k hs x) (fun _ h=>h.elim)
 refine W.ret ⟨t,termV k1 k2 k3 k4 k5,_,c + 1,b',rfl,d,?_⟩
 unfold OutT
 rw [if_neg (by decide),rdT_coreT h1w h3w,show coreT G ats f w c = (coreL ats w).bind fun y=>some (y,c + 1) from by unfold coreT; rw [if_neg t4,if_neg t6,if_neg t3]]
 cases e1 : coreL ats w with
 | none=>rw [e1] at hx; exact hx
 | some y=>rw [e1] at hx; exact ⟨hx.1,rfl,hx.2⟩
theorem getS_all {base : Nat} {oa ya : Option Addr} {G : Gn} {aa : Option Addr} {ats : List ByteArray} (hG : G.Ok) (ho : G.old.length≤1000) (ha : ats.length≤1048576) (hs : ∀ s ∈ ats,s.size≤maxLen) : ∀ f,f≤6→GetS base oa ya G aa ats f
 | 0,_=>getS_zero
 | f + 1,hf=>getS_succ hG ho ha hs (by omega) (getS_all hG ho ha hs f (by omega))
def gRs (G : Gn) (ats : List ByteArray) (w : Int) : Tm × Bool:=match rdT chkT G ats 6 w 0 with
 | some y=>if tOk 7 y.1 = true then (y.1,true) else (tmZ,false)
 | none=>(tmZ,false)
theorem specGensRead_run {base : Nat} {h : AH} {oa ya : Option Addr} {G : Gn} {aa : Option Addr} {ats : List ByteArray} {w : Int} (hG : G.Ok) (hol : G.old.length≤1000) (ha : ats.length≤1048576) (hs : ∀ s ∈ ats,s.size≤maxLen) (hwk : wOk w) (x : RdA base oa ya G aa ats h) (hb : base≤h.length) :
  ∃ cs' h',run (Et base) 111 [.agg (gensV oa ya G).toArray,.slice aa ats.length ats.length,.int .i64 w] h = some (.tuple #[.agg cs'.toArray,.bool (gRs G ats w).2],h')∧TmG base 7 (iS h.length h'.length) h' (gRs G ats w).1 cs'∧KB NoB h h':=by
 have xlt:=x.lt
 have d:=(Hs.start hb).inp (fun b=>b < h.length) (fun y=>RdA base oa ya G aa ats y) x (fun U y y' k hS q=>q.keep k fun i hi=>hS i (xlt i hi)) (fun b hb=>hb) (fun x hx=>nomatch hx) rfl
 suffices W : Wp (run (Et base) 111 [.agg (gensV oa ya G).toArray,.slice aa ats.length ats.length,.int .i64 w] h) fun o=>∃ cs',o.1 = .tuple #[.agg cs'.toArray,.bool (gRs G ats w).2]∧TmG base 7 (iS h.length o.2.length) o.2 (gRs G ats w).1 cs'∧KB NoB h o.2 by
  obtain ⟨⟨o1,o2⟩,e,cs',y1,y2,y3⟩:=W
  simp only at y1 y2 y3
  subst y1
  exact ⟨cs',o2,e,y2,y3⟩
 refine W.of (fun r hx=>Am.r111 hx) ?_
 ((try simp only [n1,n2,n3,n4,n5,n6] at d); (with_reducible repeat first|refine W.a1 d ?_|refine W.a2 ?_|refine W.a3 ?_|refine W.bo ?_|refine W.a5 d fun hw d lw kw=>?_|refine W.a6 d ?_|refine W.a7 ?_|refine W.a8 ?_); (refine W.nD d fun p1 d _ kp1=>?_); (with_reducible repeat first|refine W.a1 d ?_|refine W.a2 ?_|refine W.a3 ?_|refine W.bo ?_|refine W.a5 d fun hw d lw kw=>?_|refine W.a6 d ?_|refine W.a7 ?_|refine W.a8 ?_); (refine W.nD d fun p2 d _ kp2=>?_); (with_reducible repeat first|refine W.a1 d ?_|refine W.a2 ?_|refine W.a3 ?_|refine W.bo ?_|refine W.a5 d fun hw d lw kw=>?_|refine W.a6 d ?_|refine W.a7 ?_|refine W.a8 ?_); (refine W.nD d fun p3 d _ kp3=>?_); (with_reducible repeat first|refine W.a1 d ?_|refine W.a2 ?_|refine W.a3 ?_|refine W.bo ?_|refine W.a5 d fun hw d lw kw=>?_|refine W.a6 d ?_|refine W.a7 ?_|refine W.a8 ?_))
 have d1:=Hs.part (D1:=[_]) (R1:=[_]) d
 refine W.wb (getS_all (base:=base) hG hol ha hs 6 (Nat.le_refl _) p2.length w 0 _ _ _ _ _ _ hwk (by omega) (fun y hy=>hy) d1) ?_
 rintro ⟨u,h4⟩ ⟨t,cs',S',c',b',y1,d2,ho⟩
 simp only at y1 d2
 subst y1
 have d:=Hs.back (D1:=[_]) (R1:=[_]) d d2 (imA rfl)
 have tg : TmG base 7 S' h4 t _:=d.rs (i:=1) rfl
 obtain ⟨k1,k2,k3,k4,k5,rfl⟩:=tg.form
 clear d1 d2
 ((try simp only [n1,n2,n3,n4,n5,n6] at d); (with_reducible repeat first|refine W.a1 d ?_|refine W.a2 ?_|refine W.a3 ?_|refine W.bo ?_|refine W.a5 d fun hw d lw kw=>?_|refine W.a6 d ?_|refine W.a7 ?_|refine W.a8 ?_); (refine W.nD d fun h9 d _ kh9=>?_); (with_reducible repeat first|refine W.a1 d ?_|refine W.a2 ?_|refine W.a3 ?_|refine W.bo ?_|refine W.a5 d fun hw d lw kw=>?_|refine W.a6 d ?_|refine W.a7 ?_|refine W.a8 ?_))
 apply W.jb (b' || !tOk 7 t) d
 ·((try simp only [n1,n2,n3,n4,n5,n6] at d); (with_reducible repeat first|refine W.a1 d ?_|refine W.a2 ?_|refine W.a3 ?_|refine W.bo ?_|refine W.a5 d fun hw d lw kw=>?_|refine W.a6 d ?_|refine W.a7 ?_|refine W.a8 ?_))
  refine W.ite (fun c=>?_) (fun c=>?_)
  ·rw [c]; exact W.lb rfl rfl (KB.refl _ _)
  ·have c : b' = false:=by simpa using c
   rw [c]
   ((try simp only [n1,n2,n3,n4,n5,n6] at d); (with_reducible repeat first|refine W.a1 d ?_|refine W.a2 ?_|refine W.a3 ?_|refine W.bo ?_|refine W.a5 d fun hw d lw kw=>?_|refine W.a6 d ?_|refine W.a7 ?_|refine W.a8 ?_))
   obtain ⟨h5,e5,k5'⟩:=specTermOk_run (base:=base) (d.rs (i:=1) rfl : TmG base 7 S' hw t _).tmR d.ge
   have d:=d.kN k5'
   refine W.bs e5 ?_
   ((try simp only [n1,n2,n3,n4,n5,n6] at d); (with_reducible repeat first|refine W.a1 d ?_|refine W.a2 ?_|refine W.a3 ?_|refine W.bo ?_|refine W.a5 d fun hw d lw kw=>?_|refine W.a6 d ?_|refine W.a7 ?_|refine W.a8 ?_))
   exact W.lb rfl rfl k5'
 intro h11 d n11
 ((try simp only [n1,n2,n3,n4,n5,n6] at d); (with_reducible repeat first|refine W.a1 d ?_|refine W.a2 ?_|refine W.a3 ?_|refine W.bo ?_|refine W.a5 d fun hw d lw kw=>?_|refine W.a6 d ?_|refine W.a7 ?_|refine W.a8 ?_))
 have hgr : gRs G ats w = if (b' || !tOk 7 t) = true then (tmZ,false) else (t,true):=by
  unfold gRs
  unfold OutT at ho
  rw [if_neg (by decide)] at ho
  cases e1 : rdT chkT G ats 6 w 0 with
  | none=>rw [e1] at ho; rw [ho]; rfl
  | some y=>
   rw [e1] at ho
   obtain ⟨i1,i2,i3⟩:=ho
   rw [i3,i1]
   simp only [Bool.false_or]
   cases tOk 7 y.1 <;> rfl
 refine W.ite (fun c=>?_) (fun c=>?_)
 ·rw [hgr,if_pos c]
  ((try simp only [n1,n2,n3,n4,n5,n6] at d); (with_reducible repeat first|refine W.a1 d ?_|refine W.a2 ?_|refine W.a3 ?_|refine W.bo ?_|refine W.a5 d fun hw d lw kw=>?_|refine W.a6 d ?_|refine W.a7 ?_|refine W.a8 ?_))
  exact W.ret ⟨_,rfl,tmZ_G,d.kb⟩
 ·rw [hgr,if_neg c]
  ((try simp only [n1,n2,n3,n4,n5,n6] at d); (with_reducible repeat first|refine W.a1 d ?_|refine W.a2 ?_|refine W.a3 ?_|refine W.bo ?_|refine W.a5 d fun hw d lw kw=>?_|refine W.a6 d ?_|refine W.a7 ?_|refine W.a8 ?_))
  exact W.ret ⟨_,rfl,d.out (TmG.mo _ _) (i:=1) rfl,d.kb⟩
theorem gRs_gRd (G : Gn) (ats : List ByteArray) (w : Int) : gRs G ats w = gRd G ats w:=by
 unfold gRs gRd
 cases e : rdT chkI G ats 6 w 0 with
 | some y=>rw [rdT_T e]
 | none=>
  cases e2 : rdT chkT G ats 6 w 0 with
  | none=>rfl
  | some y=>
   simp only
   cases e3 : tOk 7 y.1 with
   | false=>rfl
   | true=>rw [rdT_I e2 7 e3] at e; cases e
theorem gRd_ok {G : Gn} {ats : List ByteArray} {w : Int} (h : (gRd G ats w).2 = true) : ∃ y,rdT chkI G ats 6 w 0 = some y∧tOk 7 y.1 = true:=by
 unfold gRd at h
 cases e : rdT chkI G ats 6 w 0 with
 | none=>rw [e] at h; cases h
 | some y=>
  rw [e] at h
  simp only at h
  cases e3 : tOk 7 y.1 with
  | false=>rw [e3] at h; cases h
  | true=>exact ⟨y,rfl,e3⟩
end Go.Proofs.Ytkdenmdijdmnjaa.Am
set_option linter.unusedSimpArgs false
set_option linter.unusedVariables false
namespace Go.Proofs.Ytkdenmdijdmnjaa.Am
open Go Go.RowKit
def GmB (base gb : Nat) (oa ya : Option Addr) (G : Gn) (h : AH) : Prop:=
 Am.cell h gb 0 = some (.slice oa G.old.length G.old.length)∧Am.cell h gb 1 = some (.slice ya G.young.length G.young.length)∧Am.cell h gb 2 = some (.int .i64 G.mark)∧GnO base h oa ya G
theorem GmB.keepN {base gb : Nat} {oa ya : Option Addr} {G : Gn} {h h' : AH} (x : GmB base gb oa ya G h) (k : KB NoB h h') : GmB base gb oa ya G h':=
 ⟨cell_keepU x.1 k (fun h=>h),cell_keepU x.2.1 k (fun h=>h),cell_keepU x.2.2.1 k (fun h=>h),x.2.2.2.keepN k⟩
theorem wordAt_run {base gb : Nat} {h : AH} {G : Gn} {oa ya : Option Addr} {p : Int} (hG : G.Ok) (hp : p≤9223372036854775807) (x : GmB base gb oa ya G h) :
  run (Et base) 154 [.pointer (at0 gb),.int .i64 p] h = some (Value.tuple #[.int .i64 ((gwd G p).getD 0),.bool (gwd G p).isSome],h):=
 implWord_run hG hp x.1 x.2.1 x.2.2.2.2.2
theorem part_run {base gb : Nat} {h : AH} {G : Gn} {oa ya : Option Addr} {p : Int} (hp : wOk p) (x : GmB base gb oa ya G h) :
  run (Et base) 148 [.pointer (at0 gb),.int .i64 p] h = some (.int .i64 (prt G p),h):=by
 refine Am.r148 ?_
 obtain ⟨p1,p2⟩:=hp
 unfold prt
 by_cases c : p < 100000
 ·rw [if_pos (decide_eq_true c),if_pos c]
 ·rw [if_neg (by simpa using c),if_neg c]
  rw [w64i (n:=p - 100000) (by omega) (by omega)]
  refine bI (by rw [x.2.2.1]) ?_
  by_cases c2 : p - 100000 < G.mark
  ·rw [if_pos (decide_eq_true c2),if_pos c2]
  ·rw [if_neg (by simpa using c2),if_neg c2]
theorem leads_run {base : Nat} {h : AH} {w : Int} : run (Et base) 150 [.int .i64 w] h = some (.bool (leadW w),h):=by
 refine Am.r150 ?_
 rw [implTag_run]
 simp only [Option.bind_some,getI,if_true]
 rw [in_run]
 rfl
def wid (G : Gn) (w : Int) : Int:=if tagW w = 5 then 2 else (gwd G (valW w)).getD 0 + 1
theorem widthOf_run {base gb : Nat} {h : AH} {G : Gn} {oa ya : Option Addr} {w : Int} (hG : G.Ok) (hw : wOk w) (hn : tagW w ≠ 5→0≤(gwd G (valW w)).getD 0∧(gwd G (valW w)).getD 0≤1000) (x : GmB base gb oa ya G h) :
  run (Et base) 153 [.pointer (at0 gb),.int .i64 w] h = some (.int .i64 (wid G w),h):=by
 have vle:=valW_le hw
 suffices W : Wp (run (Et base) 153 [.pointer (at0 gb),.int .i64 w] h) fun o=>o = (.int .i64 (wid G w),h) by
  obtain ⟨o,e,rfl⟩:=W
  exact e
 refine W.of (fun r hx=>Am.r153 hx) ?_
 refine W.bs implTag_run (W.bI rfl ?_)
 unfold wid
 refine W.ite (fun c=>?_) (fun c=>?_)
 ·have c : tagW w = 5:=by simpa using c
  rw [if_pos c]
  exact W.ret rfl
 ·have c : ¬ tagW w = 5:=by simpa using c
  rw [if_neg c]
  have hn:=hn c
  refine W.bs (implVal_run hw.2) (W.bI rfl ?_)
  refine W.bs (wordAt_run hG (by omega) x) ?_
  refine W.bs rfl (W.bI rfl (W.bB rfl (W.ret ?_)))
  rw [w64i (by omega) (by omega)]
abbrev rIs (base : Nat) (S : Fp) (l : List Int) (a : Option Addr) : Rs:=⟨S,true,fun y=>Own base 3 y a (iv .i64 l)⟩
theorem wordsOf_loop {base gb : Nat} {G : Gn} {oa ya : Option Addr} {w : Int} {S V : Fp} {m : Bool} {A : AH→Prop} {h0 : AH} (hG : G.Ok) (hw : wOk w) (hn : tagW w ≠ 5→0≤(gwd G (valW w)).getD 0∧(gwd G (valW w)).getD 0≤1000) (hA : ∀ y,A y→GmB base gb oa ya G y) : ∀ (r i : Nat) (h : AH) (l : List Int) (ao : Option Addr) (S2 : Fp),(i : Int) + r = wid G w→l.length≤i→(∀ x,blk ao x→S2 x)→Hs base V h0 h [] [⟨S,m,A⟩,rIs base S2 l ao] →
  Wp (loopL (B161_0 base) [some (.pointer (at0 gb)),some (.int .i64 w),some (.int .i64 (valW w)),some (.slice ao l.length l.length),some (.int .i64 (i : Int))] h) fun o=>∃ l' a2 S',o.1 = 3∧o.2.1 = [some (.slice a2 l'.length l'.length)]∧l' = l ++ (List.range r).map (fun (k : Nat)=>(gwd G (valW w + (i : Int) + (k : Int))).getD 0)∧Hs base V h0 o.2.2 [] [⟨S,m,A⟩,rIs base S' l' a2]:=by
 have vle:=valW_le hw
 have vnn:=valW_nn w
 have hwd : wid G w≤1001:=by
  unfold wid
  split
  ·omega
  ·rename_i h; have:=hn h; omega
 intro r
 induction r with
 | zero=>
  intro i h l ao S2 hi hl hS d
  suffices w1 : Wp (B161_0 base [some (.pointer (at0 gb)),some (.int .i64 w),some (.int .i64 (valW w)),some (.slice ao l.length l.length),some (.int .i64 (i : Int))] h) fun o=>o = (3,[some (.slice ao l.length l.length)],h) by
   obtain ⟨o,e,rfl⟩:=w1
   exact ⟨_,loop_off (by decide) e,l,ao,S2,rfl,rfl,by simp,d⟩
  rw [B161_0_eq]
  refine W.bs (widthOf_run hG hw hn (hA _ (d.rs (i:=0) rfl))) ?_
  ((try simp only [n1,n2,n3,n4,n5,n6] at d); (with_reducible repeat first|refine W.a1 d ?_|refine W.a2 ?_|refine W.a3 ?_|refine W.bo ?_|refine W.a5 d fun hw d lw kw=>?_|refine W.a6 d ?_|refine W.a7 ?_|refine W.a8 ?_))
  exact W.ifF (by simp; omega) (W.ret rfl)
 | succ r ihr=>
  intro i h l ao S2 hi hl hS d
  suffices w1 : Wp (B161_0 base [some (.pointer (at0 gb)),some (.int .i64 w),some (.int .i64 (valW w)),some (.slice ao l.length l.length),some (.int .i64 (i : Int))] h) fun o=>∃ a2 S',o.1 = 0∧o.2.1 = [some (.pointer (at0 gb)),some (.int .i64 w),some (.int .i64 (valW w)),some (.slice a2 (l.length + 1) (l.length + 1)),some (.int .i64 ((i : Int) + 1))]∧(∀ x,blk a2 x→S' x)∧Hs base V h0 o.2.2 [] [⟨S,m,A⟩,rIs base S' (l ++ [(gwd G (valW w + (i : Int))).getD 0]) a2] by
   obtain ⟨⟨o1,o2,h'⟩,e,a2,S',y1,y2,hS',d'⟩:=w1
   simp only at y1 y2 d'
   subst y1; subst y2
   have el : (l ++ [(gwd G (valW w + (i : Int))).getD 0]).length = l.length + 1:=by simp
   have q:=ihr (i + 1) h' (l ++ [(gwd G (valW w + (i : Int))).getD 0]) a2 S' (by omega) (by omega) hS' d'
   rw [el] at q
   obtain ⟨o,eo,l2,a3,S3,z1,z2,z3,z4⟩:=q
   refine ⟨o,loop_on e eo,l2,a3,S3,z1,z2,?_,z4⟩
   rw [z3,List.range_succ_eq_map,List.map_cons,List.map_map,List.append_assoc]
   congr 1
   rw [List.singleton_append]
   congr 1
   ·rw [show valW w + (i : Int) + ((0 : Nat) : Int) = valW w + (i : Int) from by omega]
   ·apply List.map_congr_left
    intro k _
    simp only [Function.comp]
    rw [show valW w + ((i + 1 : Nat) : Int) + (k : Int) = valW w + (i : Int) + (k.succ : Int) from by omega]
  rw [B161_0_eq]
  refine W.bs (widthOf_run hG hw hn (hA _ (d.rs (i:=0) rfl))) ?_
  ((try simp only [n1,n2,n3,n4,n5,n6] at d); (with_reducible repeat first|refine W.a1 d ?_|refine W.a2 ?_|refine W.a3 ?_|refine W.bo ?_|refine W.a5 d fun hw d lw kw=>?_|refine W.a6 d ?_|refine W.a7 ?_|refine W.a8 ?_))
  refine W.ifT (decide_eq_true (by omega)) ?_
  rw [w64i (n:=valW w + (i : Int)) (by omega) (by omega)]
  refine W.bs (wordAt_run hG (by omega) (hA _ (d.rs (i:=0) rfl))) ?_
  ((try simp only [n1,n2,n3,n4,n5,n6] at d); (with_reducible repeat first|refine W.a1 d ?_|refine W.a2 ?_|refine W.a3 ?_|refine W.bo ?_|refine W.a5 d fun hw d lw kw=>?_|refine W.a6 d ?_|refine W.a7 ?_|refine W.a8 ?_); (refine W.nD d fun h3 d _ kh3=>?_); (with_reducible repeat first|refine W.a1 d ?_|refine W.a2 ?_|refine W.a3 ?_|refine W.bo ?_|refine W.a5 d fun hw d lw kw=>?_|refine W.a6 d ?_|refine W.a7 ?_|refine W.a8 ?_))
  obtain ⟨a5,h5,e5,d,q5,k5,_⟩:=d.app1O (w:=1) (i:=1) (n:=l.length) (bytes:=8) rfl hS (.head _) rfl (by decide) (by simp) rfl (by omega) (by omega)
  refine W.bs e5 ?_
  ((try simp only [n1,n2,n3,n4,n5,n6] at d); (with_reducible repeat first|refine W.a1 d ?_|refine W.a2 ?_|refine W.a3 ?_|refine W.bo ?_|refine W.a5 d fun hw d lw kw=>?_|refine W.a6 d ?_|refine W.a7 ?_|refine W.a8 ?_))
  rw [w64i (n:=(i : Int) + 1) (by omega) (by omega)]
  have d:=d.tl
  rw [show iv .i64 l ++ [Value.int .i64 ((gwd G (valW w + (i : Int))).getD 0)] = iv .i64 (l ++ [(gwd G (valW w + (i : Int))).getD 0]) from by rw [← iv_append]; rfl] at d
  exact W.ret ⟨a5,_,rfl,rfl,fun x hx=>hx,d⟩
theorem wordsOf_run {base gb : Nat} {h : AH} {G : Gn} {oa ya : Option Addr} {w : Int} (hG : G.Ok) (hwk : wOk w) (hl : leadW w = true) (hn : Nd G w) (hgb : gb < h.length) (x : GmB base gb oa ya G h) (hb : base≤h.length) :
  ∃ a' h',run (Et base) 161 [.pointer (at0 gb),.int .i64 w] h = some (.slice a' (chW G w).length (chW G w).length,h')∧Sl h' a' (iv .i64 (chW G w))∧KB NoB h h':=by
 have hw4 : tagW w = 4 ∨ tagW w = 5 ∨ tagW w = 6:=by
  unfold leadW inB at hl
  simp only [Bool.and_eq_true,decide_eq_true_eq] at hl
  omega
 have hn5 : tagW w ≠ 5→0≤(gwd G (valW w)).getD 0∧(gwd G (valW w)).getD 0≤1000:=by
  intro h5
  rcases hw4 with h|h|h
  ·obtain ⟨v,e,a,b,_⟩:=hn.2.1 h; rw [e]; exact ⟨a,by simp; omega⟩
  ·exact absurd h h5
  ·obtain ⟨v,e,a,b⟩:=hn.1 h; rw [e]; exact ⟨a,by simp; omega⟩
 have xlt:=x.2.2.2.lt
 have d:=(Hs.start hb).inp (fun b=>b < h.length) (fun y=>GmB base gb oa ya G y) x (fun U y y' k hS q=>⟨cell_keepU q.1 k (hS _ hgb),cell_keepU q.2.1 k (hS _ hgb),cell_keepU q.2.2.1 k (hS _ hgb),q.2.2.2.keep k fun i hi=>hS i (xlt i hi)⟩) (fun b hb=>hb) (fun x hx=>nomatch hx) rfl
 suffices W : Wp (run (Et base) 161 [.pointer (at0 gb),.int .i64 w] h) fun o=>∃ a',o.1 = .slice a' (chW G w).length (chW G w).length∧Sl o.2 a' (iv .i64 (chW G w))∧KB NoB h o.2 by
  obtain ⟨⟨o1,o2⟩,e,a',y1,y2,y3⟩:=W
  simp only at y1 y2 y3
  subst y1
  exact ⟨a',o2,e,y2,y3⟩
 refine W.of (fun r hx=>Am.r161 hx) ?_
 refine W.bs (implVal_run hwk.2) ?_
 ((try simp only [n1,n2,n3,n4,n5,n6] at d); (with_reducible repeat first|refine W.a1 d ?_|refine W.a2 ?_|refine W.a3 ?_|refine W.bo ?_|refine W.a5 d fun hw d lw kw=>?_|refine W.a6 d ?_|refine W.a7 ?_|refine W.a8 ?_))
 by_cases t6 : tagW w = 6
 ·have ec : chW G w = []:=by unfold chW; rw [if_neg (by omega),if_neg (by omega)]
  rw [ec]
  refine W.join ?_
  refine W.bs implTag_run ?_
  ((try simp only [n1,n2,n3,n4,n5,n6] at d); (with_reducible repeat first|refine W.a1 d ?_|refine W.a2 ?_|refine W.a3 ?_|refine W.bo ?_|refine W.a5 d fun hw d lw kw=>?_|refine W.a6 d ?_|refine W.a7 ?_|refine W.a8 ?_))
  refine W.ifT (by simp [t6]) ?_
  exact W.mp (W.ret ⟨none,rfl,.inl rfl,KB.refl _ _⟩)
 have fin : ∀ (i r : Nat),(i : Int) + r = wid G w→chW G w = (List.range r).map (fun (k : Nat)=>(gwd G (valW w + (i : Int) + (k : Int))).getD 0)→Wp ((loopL (B161_0 base) [some (.pointer (at0 gb)),some (.int .i64 w),some (.int .i64 (valW w)),some (.slice none 0 0),some (.int .i64 (i : Int))] h).bind fun q10=>(if q10.1 = 3 then ((sget q10.2.1 0).bind getS).bind fun l11=>some ((Value.slice l11.1 l11.2 l11.2),q10.2.2) else none)) fun o=>∃ a',o.1 = .slice a' (chW G w).length (chW G w).length∧Sl o.2 a' (iv .i64 (chW G w))∧KB NoB h o.2:=by
  intro i r hi he
  have d:=d.call (KB.refl NoB _) (fun _=>False) (fun y=>Own base 3 y none (iv .i64 [])) (.inl ⟨rfl,rfl⟩) (fun U y y' k hs x=>Own.keep x k fun b hb=>by obtain ⟨_,e,_⟩:=hb; cases e) (fun _ h=>h.elim)
  refine W.wb (wordsOf_loop (base:=base) hG hwk hn5 (fun y hy=>hy) r i h [] none _ hi (by simp) (fun x hx=>by obtain ⟨_,e,_⟩:=hx; cases e) d) ?_
  rintro ⟨o1,o2,h3⟩ ⟨l',a2,S',z1,z2,z3,z4⟩
  simp only at z1 z2 z4
  subst z1; subst z2
  refine W.ifT rfl ?_
  refine W.bS rfl (W.ret ⟨a2,?_,?_,z4.kb⟩)
  ·rw [he,z3]; rfl
  ·rw [he]
   have:=Own.sl (z4.rs (i:=1) rfl)
   rw [z3] at this
   simpa using this
 by_cases t5 : tagW w = 5
 ·refine W.joinP (fun q=>q = ([some (.pointer (at0 gb)),some (.int .i64 w),some (.int .i64 (valW w)),some (.int .i64 ((0 : Nat) : Int))],h)) ?_ fun q hq=>?_
  ·refine W.bs implTag_run ?_
   ((try simp only [n1,n2,n3,n4,n5,n6] at d); (with_reducible repeat first|refine W.a1 d ?_|refine W.a2 ?_|refine W.a3 ?_|refine W.bo ?_|refine W.a5 d fun hw d lw kw=>?_|refine W.a6 d ?_|refine W.a7 ?_|refine W.a8 ?_))
   refine W.ifF (by simp [t5]) (W.ifT (by simp [t5]) (W.inl rfl))
  subst hq
  ((try simp only [n1,n2,n3,n4,n5,n6] at d); (with_reducible repeat first|refine W.a1 d ?_|refine W.a2 ?_|refine W.a3 ?_|refine W.bo ?_|refine W.a5 d fun hw d lw kw=>?_|refine W.a6 d ?_|refine W.a7 ?_|refine W.a8 ?_))
  refine fin 0 2 (by unfold wid; rw [if_pos t5]; rfl) ?_
  unfold chW
  rw [if_pos t5]
  simp only [List.range_succ,List.range_zero,List.nil_append,List.map_append,List.map_cons,List.map_nil,List.cons_append,Int.natCast_zero,Int.add_zero]
  rfl
 ·have t4 : tagW w = 4:=by omega
  refine W.joinP (fun q=>q = ([some (.pointer (at0 gb)),some (.int .i64 w),some (.int .i64 (valW w)),some (.int .i64 ((1 : Nat) : Int))],h)) ?_ fun q hq=>?_
  ·refine W.bs implTag_run ?_
   ((try simp only [n1,n2,n3,n4,n5,n6] at d); (with_reducible repeat first|refine W.a1 d ?_|refine W.a2 ?_|refine W.a3 ?_|refine W.bo ?_|refine W.a5 d fun hw d lw kw=>?_|refine W.a6 d ?_|refine W.a7 ?_|refine W.a8 ?_))
   refine W.ifF (by simp [t4]) (W.ifF (by simp [t4]) (W.inl rfl))
  subst hq
  ((try simp only [n1,n2,n3,n4,n5,n6] at d); (with_reducible repeat first|refine W.a1 d ?_|refine W.a2 ?_|refine W.a3 ?_|refine W.bo ?_|refine W.a5 d fun hw d lw kw=>?_|refine W.a6 d ?_|refine W.a7 ?_|refine W.a8 ?_))
  have:=hn5 t5
  refine fin 1 ((gwd G (valW w)).getD 0).toNat (by unfold wid; rw [if_neg t5]; omega) ?_
  unfold chW
  rw [if_neg t5,if_pos t4]
  rfl
end Go.Proofs.Ytkdenmdijdmnjaa.Am
set_option linter.unusedSimpArgs false
set_option linter.unusedVariables false
namespace Go.Proofs.Ytkdenmdijdmnjaa.Am
open Go Go.RowKit
theorem chW_ok {G : Gn} (hG : G.Ok) {w x : Int} (h : x ∈ chW G w) : wOk x:=by
 unfold chW at h
 split at h
 ·simp only [List.mem_cons,List.not_mem_nil,or_false] at h
  rcases h with rfl|rfl <;> exact gwd_getD hG _
 ·split at h
  ·obtain ⟨i,_,rfl⟩:=List.mem_map.1 h
   exact gwd_getD hG _
  ·cases h
def chkD (G : Gn) (n : Nat) (own : Int) (x : Int) : Bool:=!(leadW x && decide (prt G (valW x) > own)) && dnW G n x
def DnR (base gb : Nat) (oa ya : Option Addr) (G : Gn) (n : Nat) : Prop:=∀ (h : AH) (w : Int),wOk w→Fue G n w→gb < h.length→GmB base gb oa ya G h→base≤h.length →
 ∃ h',run (Et base) 109 [.pointer (at0 gb),.int .i64 w] h = some (.bool (dnW G n w),h')∧KB NoB h h'
theorem downward_loop {base gb n : Nat} {G : Gn} {oa ya a' : Option Addr} {own : Int} {L : List Int} (hG : G.Ok) (hL : ∀ x ∈ L,wOk x∧Fue G n x) (hLl : L.length≤9223372036854775807) (ih : DnR base gb oa ya G n) : ∀ (r i : Nat) (h : AH),i + r = L.length→gb < h.length→GmB base gb oa ya G h→Sl h a' (iv .i64 L)→base≤h.length →
  Wp (loopL (B109_0 base) [some (.pointer (at0 gb)),some (.int .i64 own),some (.slice a' L.length L.length),some (.int .i64 (L.length : Int)),some (.int .i64 (i : Int))] h) fun o=>(if (L.drop i).all (chkD G n own) = true then o.1 = 2 else o.1 = 1∧o.2.1 = [some (.bool false)])∧KB NoB h o.2.2:=by
 intro r
 induction r with
 | zero=>
  intro i h hi hgb x hs hb
  suffices w1 : Wp (B109_0 base [some (.pointer (at0 gb)),some (.int .i64 own),some (.slice a' L.length L.length),some (.int .i64 (L.length : Int)),some (.int .i64 (i : Int))] h) fun o=>o = (2,[],h) by
   obtain ⟨o,e,rfl⟩:=w1
   refine ⟨_,loop_off (by decide) e,?_,KB.refl _ _⟩
   rw [List.drop_of_length_le (by omega)]
   rfl
  rw [B109_0_eq]
  exact W.ifF (by simp; omega) (W.ret rfl)
 | succ r ihr=>
  intro i h hi hgb x hs hb
  have hlt : i < L.length:=by omega
  have hx:=hL L[i] (List.getElem_mem _)
  have ed : L.drop i = L[i] :: L.drop (i + 1):=List.drop_eq_getElem_cons hlt
  suffices w1 : Wp (B109_0 base [some (.pointer (at0 gb)),some (.int .i64 own),some (.slice a' L.length L.length),some (.int .i64 (L.length : Int)),some (.int .i64 (i : Int))] h) fun o=>(if chkD G n own L[i] = true then o.1 = 0∧o.2.1 = [some (.pointer (at0 gb)),some (.int .i64 own),some (.slice a' L.length L.length),some (.int .i64 (L.length : Int)),some (.int .i64 ((i : Int) + 1))] else o.1 = 1∧o.2.1 = [some (.bool false)])∧KB NoB h o.2.2 by
   obtain ⟨⟨o1,o2,h'⟩,e,y1,k⟩:=w1
   simp only at y1 k
   cases hc : chkD G n own L[i] with
   | true=>
    rw [hc,if_pos rfl] at y1
    obtain ⟨y1,y2⟩:=y1
    subst y1; subst y2
    obtain ⟨o,eo,z1,z2⟩:=ihr (i + 1) h' (by omega) (Nat.lt_of_lt_of_le hgb k.1) (x.keepN k) (hs.keepN k) (Nat.le_trans hb k.1)
    refine ⟨o,loop_on e eo,?_,kN k z2⟩
    rw [ed,List.all_cons,hc,Bool.true_and]
    exact z1
   | false=>
    rw [hc,if_neg (by decide)] at y1
    obtain ⟨y1,y2⟩:=y1
    subst y1; subst y2
    refine ⟨_,loop_off (by decide) e,?_,k⟩
    rw [ed,List.all_cons,hc,Bool.false_and,if_neg (by decide)]
    exact ⟨rfl,rfl⟩
  rw [B109_0_eq]
  refine W.ifT (decide_eq_true (by omega)) (W.ifT (by omega) ?_)
  obtain ⟨ad,rfl,g⟩:=hs.int hlt
  refine W.bs rfl (W.bs (by rw [show Int.toNat (i : Int) * 1 = i from by simp]; exact g) ?_)
  have rr : ∃ h',run (Et base) 109 [.pointer (at0 gb),.int .i64 L[i]] h = some (.bool (dnW G n L[i]),h')∧KB NoB h h':=ih h L[i] hx.1 hx.2 hgb x hb
  obtain ⟨h1,e1,k1⟩:=rr
  refine W.joinP (fun q=>q.1 = [some (.pointer (at0 gb)),some (.int .i64 own),some (.slice (some ad) L.length L.length),some (.int .i64 (L.length : Int)),some (.int .i64 (i : Int)),some (.bool (!chkD G n own L[i]))]∧KB NoB h q.2) ?_ fun q hq=>?_
  ·refine W.bs leads_run (W.bB rfl ?_)
   refine W.ite (fun c=>?_) (fun c=>?_)
   ·refine W.bs (implVal_run hx.1.2) (W.bI rfl ?_)
    refine W.bs (part_run (valW_ok hx.1) x) (W.bI rfl ?_)
    refine W.ite (fun c2=>?_) (fun c2=>?_)
    ·refine W.inl ⟨?_,KB.refl _ _⟩
     unfold chkD
     rw [c,c2]
     rfl
    ·have c2 : decide (prt G (valW L[i]) > own) = false:=by simpa using c2
     refine W.bs e1 (W.bB rfl (W.inl ⟨?_,k1⟩))
     unfold chkD
     rw [c,c2]
     rfl
   ·have c : leadW L[i] = false:=by simpa using c
    refine W.bs e1 (W.bB rfl (W.inl ⟨?_,k1⟩))
    unfold chkD
    rw [c]
    rfl
  obtain ⟨q1,q2⟩:=q
  obtain ⟨e,k⟩:=hq
  simp only at e k
  subst e
  cases hc : chkD G n own L[i] with
  | true=>
   simp only [Bool.not_true]
   refine W.bs rfl (W.bs rfl (W.bs rfl (W.bs rfl (W.bs rfl (W.bs rfl (W.ifF (by decide) (W.ret ⟨?_,k⟩)))))))
   rw [w64i (n:=(i : Int) + 1) (by omega) (by omega),if_pos trivial]
   exact ⟨rfl,rfl⟩
  | false=>
   simp only [Bool.not_false]
   refine W.bs rfl (W.bs rfl (W.bs rfl (W.bs rfl (W.bs rfl (W.bs rfl (W.ifT rfl (W.ret ⟨?_,k⟩)))))))
   rw [if_neg (by decide)]
   exact ⟨rfl,rfl⟩
theorem downward_all {base gb : Nat} {G : Gn} {oa ya : Option Addr} (hG : G.Ok) : ∀ n,DnR base gb oa ya G n
 | 0=>fun h w _ hf=>hf.elim
 | n + 1=>by
  intro h w hw hf hgb x hb
  have ih:=downward_all (base:=base) (gb:=gb) (oa:=oa) (ya:=ya) hG n
  suffices W : Wp (run (Et base) 109 [.pointer (at0 gb),.int .i64 w] h) fun o=>o.1 = .bool (dnW G (n + 1) w)∧KB NoB h o.2 by
   obtain ⟨⟨o1,o2⟩,e,y1,y2⟩:=W
   simp only at y1 y2
   subst y1
   exact ⟨o2,e,y2⟩
  refine W.of (fun r hx=>Am.r109 hx) ?_
  refine W.bs leads_run (W.bB rfl ?_)
  refine W.ite (fun c=>?_) (fun c=>?_)
  ·have c : leadW w = false:=by simpa using c
   refine W.ret ⟨?_,KB.refl _ _⟩
   rw [dnW,c]; rfl
  ·have c : leadW w = true:=by simpa using c
   refine W.bs (implVal_run hw.2) (W.bI rfl ?_)
   refine W.bs (part_run (valW_ok hw) x) (W.bI rfl ?_)
   obtain ⟨a',h1,e1,s1,k1⟩:=wordsOf_run (base:=base) hG hw c hf.1 hgb x hb
   refine W.bs e1 (W.bS rfl ?_)
   have hlen : (chW G w).length≤8:=by
    unfold chW
    split
    ·show 2≤8; decide
    ·split
     ·rename_i t5 t4
      obtain ⟨v,e,a,b,_⟩:=hf.1.2.1 t4
      rw [e]; simp; omega
     ·simp
   refine W.wb (downward_loop (base:=base) (own:=prt G (valW w)) (L:=chW G w) hG (fun y hy=>⟨chW_ok hG hy,hf.2 y hy⟩) (by omega) ih (chW G w).length 0 h1 (by omega) (Nat.lt_of_lt_of_le hgb k1.1) (x.keepN k1) s1 (Nat.le_trans hb k1.1)) ?_
   rintro ⟨o1,o2,h2⟩ ⟨y1,k2⟩
   simp only at y1 k2
   rw [List.drop_zero] at y1
   have ed : dnW G (n + 1) w = (chW G w).all (chkD G n (prt G (valW w))):=by rw [dnW,c]; rfl
   rw [ed]
   cases ha : (chW G w).all (chkD G n (prt G (valW w))) with
   | true=>
    rw [ha,if_pos rfl] at y1
    subst y1
    exact W.ifF (show ¬ (2 : Nat) = 1 by decide) (W.ifT rfl (W.ret ⟨rfl,kN k1 k2⟩))
   | false=>
    rw [ha,if_neg (by decide)] at y1
    obtain ⟨y1,y2⟩:=y1
    subst y1; subst y2
    exact W.ifT rfl (W.bB rfl (W.ret ⟨rfl,kN k1 k2⟩))
end Go.Proofs.Ytkdenmdijdmnjaa.Am
set_option linter.unusedSimpArgs false
set_option linter.unusedVariables false
namespace Go.Proofs.Ytkdenmdijdmnjaa.Am
open Go Go.RowKit
theorem szW_lead {G : Gn} {w : Int} (hn : Nd G w) : (szW G w == 0) = !leadW w:=by
 have hl:=tagW_lt w
 unfold szW leadW inB
 by_cases t5 : tagW w = 5
 ·rw [if_pos t5,t5]; rfl
 rw [if_neg t5]
 by_cases t46 : tagW w = 4 ∨ tagW w = 6
 ·rw [if_pos t46]
  have hs : 1≤sz1 G (valW w):=by
   unfold sz1
   rcases t46 with t|t
   ·obtain ⟨v,e,a,b,_⟩:=hn.2.1 t
    rw [e]; simp only; rw [if_pos (by unfold inB; simp; omega)]; omega
   ·obtain ⟨v,e,a,b⟩:=hn.1 t
    rw [e]; simp only; rw [if_pos (by unfold inB; simp; omega)]; omega
  have e1 : (sz1 G (valW w) == 0) = false:=by rw [beq_eq_false_iff_ne]; omega
  rw [e1]
  rcases t46 with t|t <;> rw [t] <;> rfl
 ·rw [if_neg t46]
  have : ¬ (4≤tagW w∧tagW w≤6):=by omega
  have e2 : (decide (4≤tagW w) && decide (tagW w≤6)) = false:=by
   simp only [Bool.and_eq_false_iff,decide_eq_false_iff_not]; omega
  rw [e2]
  rfl
theorem chW_gws {G : Gn} (ho : G.old.length≤1000) {w : Int} (hn : Nd G w) (h6 : tagW w ≠ 6) (hl : leadW w = true) : (gws G (valW w) (szW G w)).drop (if tagW w = 5 then 0 else 1) = chW G w∧(gws G (valW w) (szW G w)).length≤9∧(if tagW w = 5 then 0 else 1)≤(gws G (valW w) (szW G w)).length:=by
 by_cases t5 : tagW w = 5
 ·obtain ⟨a,b⟩:=hn.2.2 t5
  have es : szW G w = 2:=by unfold szW; rw [if_pos t5]
  rw [es,if_pos t5,List.drop_zero]
  have hB : gwB G (valW w) 2 = true:=by
   cases h : gwB G (valW w) 2 with
   | true=>rfl
   | false=>
    obtain ⟨i,hi,e⟩:=gws_no ho (by omega) h
    cases i with
    | zero=>rw [show valW w + ((0 : Nat) : Int) = valW w from by omega] at e; rw [e] at a; cases a
    | succ i=>
     have : i = 0:=by omega
     subst this
     rw [show valW w + ((0 + 1 : Nat) : Int) = valW w + 1 from by omega] at e
     rw [e] at b; cases b
  obtain ⟨x,y,e,e1,e2⟩:=gws_two ho hB
  rw [e]
  refine ⟨?_,by simp,by simp⟩
  unfold chW
  rw [if_pos t5,e1,e2]; rfl
 ·have t4 : tagW w = 4:=by
   unfold leadW inB at hl
   simp only [Bool.and_eq_true,decide_eq_true_eq] at hl
   omega
  obtain ⟨v,e,a,b,hc⟩:=hn.2.1 t4
  have es : szW G w = v + 1:=by
   unfold szW
   rw [if_neg t5,if_pos (.inl t4)]
   unfold sz1
   rw [e]; simp only; rw [if_pos (by unfold inB; simp; omega)]
  rw [es,if_neg t5]
  have hB : gwB G (valW w) (v + 1) = true:=by
   cases h : gwB G (valW w) (v + 1) with
   | true=>rfl
   | false=>
    obtain ⟨i,hi,e2⟩:=gws_no ho (by omega) h
    cases i with
    | zero=>rw [show valW w + ((0 : Nat) : Int) = valW w from by omega,e] at e2; cases e2
    | succ i=>
     have:=hc i (by omega)
     rw [show valW w + 1 + (i : Int) = valW w + ((i + 1 : Nat) : Int) from by omega,e2] at this
     cases this
  have hlen:=gws_len hB
  refine ⟨?_,by omega,by omega⟩
  unfold chW
  rw [if_neg t5,if_pos t4,e]
  apply List.ext_getElem
  ·simp only [List.length_drop,List.length_map,List.length_range,Option.getD_some]; omega
  ·intro i h1 h2
   simp only [List.length_drop] at h1
   rw [List.getElem_drop,List.getElem_map,List.getElem_range]
   have:=gws_at ho hB (i:=1 + i) (by omega)
   rw [show valW w + 1 + (i : Int) = valW w + ((1 + i : Nat) : Int) from by omega,this]
   rfl
def LnR (base : Nat) (oa ya : Option Addr) (G : Gn) (n : Nat) : Prop:=∀ (h : AH) (w fr : Int),wOk w→Fue G n w→wOk fr→GnO base h oa ya G→base≤h.length →
 ∃ h',run (Et base) 145 [.agg (gensV oa ya G).toArray,.int .i64 w,.int .i64 fr] h = some (.bool (lnW G n w fr),h')∧KB NoB h h'
theorem l6Links_loop {base sb n : Nat} {G : Gn} {oa ya a' : Option Addr} {w fr : Int} {L : List Int} {S V : Fp} {m : Bool} {A : AH→Prop} {h0 : AH} (hL9 : L.length≤9) (hL : ∀ i (hi : i < L.length),(if tagW w = 5 then 0 else 1)≤i→wOk L[i]∧Fue G n L[i]) (h6 : tagW w ≠ 6) (hfr : wOk fr) (hA : ∀ y,A y→GnO base y oa ya G∧Sl y a' (iv .i64 L)) (ih : LnR base oa ya G n) : ∀ (r i : Nat) (h : AH),i + r = L.length→(if tagW w = 5 then 0 else 1)≤i→Hs base V h0 h [(sb,63,gensV oa ya G)] [⟨S,m,A⟩] →
  Wp (loopL (B145_0 base) [some (.int .i64 w),some (.int .i64 fr),some (.pointer (at0 sb)),some (.slice a' L.length L.length),some (.int .i64 (i : Int))] h) fun o=>(if (L.drop i).all (fun x=>lnW G n x fr) = true then o.1 = 2 else o.1 = 1∧o.2.1 = [some (.bool false)])∧Hs base V h0 o.2.2 [(sb,63,gensV oa ya G)] [⟨S,m,A⟩]:=by
 intro r
 induction r with
 | zero=>
  intro i h hi hf d
  suffices w1 : Wp (B145_0 base [some (.int .i64 w),some (.int .i64 fr),some (.pointer (at0 sb)),some (.slice a' L.length L.length),some (.int .i64 (i : Int))] h) fun o=>o = (2,[],h) by
   obtain ⟨o,e,rfl⟩:=w1
   refine ⟨_,loop_off (by decide) e,?_,d⟩
   rw [List.drop_of_length_le (by omega)]
   rfl
  rw [B145_0_eq]
  refine W.join (W.ifF (by simp; omega) (W.il ?_))
  ((try simp only [n1,n2,n3,n4,n5,n6] at d); (with_reducible repeat first|refine W.a1 d ?_|refine W.a2 ?_|refine W.a3 ?_|refine W.bo ?_|refine W.a5 d fun hw d lw kw=>?_|refine W.a6 d ?_|refine W.a7 ?_|refine W.a8 ?_))
  exact W.ifF (by decide) (W.ret rfl)
 | succ r ihr=>
  intro i h hi hf d
  have hlt : i < L.length:=by omega
  have hx:=hL i hlt hf
  have ed : L.drop i = L[i] :: L.drop (i + 1):=List.drop_eq_getElem_cons hlt
  suffices w1 : Wp (B145_0 base [some (.int .i64 w),some (.int .i64 fr),some (.pointer (at0 sb)),some (.slice a' L.length L.length),some (.int .i64 (i : Int))] h) fun o=>(if lnW G n L[i] fr = true then o.1 = 0∧o.2.1 = [some (.int .i64 w),some (.int .i64 fr),some (.pointer (at0 sb)),some (.slice a' L.length L.length),some (.int .i64 ((i : Int) + 1))] else o.1 = 1∧o.2.1 = [some (.bool false)])∧Hs base V h0 o.2.2 [(sb,63,gensV oa ya G)] [⟨S,m,A⟩] by
   obtain ⟨⟨o1,o2,h'⟩,e,y1,d'⟩:=w1
   simp only at y1 d'
   cases hc : lnW G n L[i] fr with
   | true=>
    rw [hc,if_pos rfl] at y1
    obtain ⟨y1,y2⟩:=y1
    subst y1; subst y2
    obtain ⟨o,eo,z1,z2⟩:=ihr (i + 1) h' (by omega) (by omega) d'
    refine ⟨o,loop_on e eo,?_,z2⟩
    rw [ed,List.all_cons,hc,Bool.true_and]
    exact z1
   | false=>
    rw [hc,if_neg (by decide)] at y1
    obtain ⟨y1,y2⟩:=y1
    subst y1; subst y2
    refine ⟨_,loop_off (by decide) e,?_,d'⟩
    rw [ed,List.all_cons,hc,Bool.false_and,if_neg (by decide)]
    exact ⟨rfl,rfl⟩
  rw [B145_0_eq]
  refine W.join (W.ifT (decide_eq_true (by omega)) ?_)
  refine W.bs specTag_run ?_
  ((try simp only [n1,n2,n3,n4,n5,n6] at d); (with_reducible repeat first|refine W.a1 d ?_|refine W.a2 ?_|refine W.a3 ?_|refine W.bo ?_|refine W.a5 d fun hw d lw kw=>?_|refine W.a6 d ?_|refine W.a7 ?_|refine W.a8 ?_))
  refine W.il ?_
  ((try simp only [n1,n2,n3,n4,n5,n6] at d); (with_reducible repeat first|refine W.a1 d ?_|refine W.a2 ?_|refine W.a3 ?_|refine W.bo ?_|refine W.a5 d fun hw d lw kw=>?_|refine W.a6 d ?_|refine W.a7 ?_|refine W.a8 ?_))
  refine W.ifT (by simpa using h6) ?_
  ((try simp only [n1,n2,n3,n4,n5,n6] at d); (with_reducible repeat first|refine W.a1 d ?_|refine W.a2 ?_|refine W.a3 ?_|refine W.bo ?_|refine W.a5 d fun hw d lw kw=>?_|refine W.a6 d ?_|refine W.a7 ?_|refine W.a8 ?_))
  obtain ⟨hgn,hsl⟩:=hA _ (d.rs (i:=0) rfl)
  obtain ⟨ad,rfl,g⟩:=hsl.int hlt
  refine W.bs rfl (W.bs (by rw [show Int.toNat (i : Int) * 1 = i from by simp]; exact g) ?_)
  obtain ⟨h1,e1,k1⟩:=ih h L[i] fr hx.1 hx.2 hfr hgn d.ge
  refine W.bs e1 ?_
  have d:=d.kN k1
  ((try simp only [n1,n2,n3,n4,n5,n6] at d); (with_reducible repeat first|refine W.a1 d ?_|refine W.a2 ?_|refine W.a3 ?_|refine W.bo ?_|refine W.a5 d fun hw d lw kw=>?_|refine W.a6 d ?_|refine W.a7 ?_|refine W.a8 ?_))
  cases hc : lnW G n L[i] fr with
  | true=>
   refine W.ifF (by decide) (W.ret ⟨?_,d⟩)
   rw [w64i (n:=(i : Int) + 1) (by omega) (by omega),if_pos rfl]
   exact ⟨rfl,rfl⟩
  | false=>
   refine W.ifT rfl (W.ret ⟨?_,d⟩)
   rw [if_neg (by decide)]
   exact ⟨rfl,rfl⟩
theorem l6Links_all {base : Nat} {G : Gn} {oa ya : Option Addr} (hG : G.Ok) (ho : G.old.length≤1000) (hm : 0≤G.mark∧G.mark≤1000) : ∀ n,LnR base oa ya G n
 | 0=>fun h w fr _ hf=>hf.elim
 | n + 1=>by
  intro h w fr hwk hf hfr x hb
  have ih:=l6Links_all (base:=base) (oa:=oa) (ya:=ya) hG ho hm n
  have d:=x.inp hb
  have vnn:=valW_nn w
  have hsz:=szW_le G w
  suffices W : Wp (run (Et base) 145 [.agg (gensV oa ya G).toArray,.int .i64 w,.int .i64 fr] h) fun o=>o.1 = .bool (lnW G (n + 1) w fr)∧KB NoB h o.2 by
   obtain ⟨⟨o1,o2⟩,e,y1,y2⟩:=W
   simp only at y1 y2
   subst y1
   exact ⟨o2,e,y2⟩
  refine W.of (fun r hx=>Am.r145 hx) ?_
  ((try simp only [n1,n2,n3,n4,n5,n6] at d); (with_reducible repeat first|refine W.a1 d ?_|refine W.a2 ?_|refine W.a3 ?_|refine W.bo ?_|refine W.a5 d fun hw d lw kw=>?_|refine W.a6 d ?_|refine W.a7 ?_|refine W.a8 ?_); (refine W.nD d fun h1 d _ kh1=>?_); (with_reducible repeat first|refine W.a1 d ?_|refine W.a2 ?_|refine W.a3 ?_|refine W.bo ?_|refine W.a5 d fun hw d lw kw=>?_|refine W.a6 d ?_|refine W.a7 ?_|refine W.a8 ?_))
  obtain ⟨h2,e2,k2⟩:=l6Size_run (base:=base) hG ho hwk (d.rs (i:=0) rfl : GnO base h1 oa ya G) d.ge
  refine W.bs e2 ?_
  have d:=d.kN k2
  ((try simp only [n1,n2,n3,n4,n5,n6] at d); (with_reducible repeat first|refine W.a1 d ?_|refine W.a2 ?_|refine W.a3 ?_|refine W.bo ?_|refine W.a5 d fun hw d lw kw=>?_|refine W.a6 d ?_|refine W.a7 ?_|refine W.a8 ?_))
  rw [szW_lead hf.1]
  refine W.ite (fun c=>?_) (fun c=>?_)
  ·have c : leadW w = false:=by simpa using c
   refine W.ret ⟨?_,d.kb⟩
   rw [lnW,c]; rfl
  have c : leadW w = true:=by simpa using c
  refine W.bs (specVal_run hwk.2) ?_
  ((try simp only [n1,n2,n3,n4,n5,n6] at d); (with_reducible repeat first|refine W.a1 d ?_|refine W.a2 ?_|refine W.a3 ?_|refine W.bo ?_|refine W.a5 d fun hw d lw kw=>?_|refine W.a6 d ?_|refine W.a7 ?_|refine W.a8 ?_))
  refine W.ite (fun c2=>?_) (fun c2=>?_)
  ·refine W.ret ⟨?_,d.kb⟩
   rw [lnW,c,c2]; rfl
  have c2 : decide (valW w ≥ fr) = false:=by simpa using c2
  refine W.joinP (fun q=>q.1 = [some (.int .i64 w),some (.int .i64 (nxt G (valW w) fr)),some (.pointer (at0 h.length)),some (.int .i64 (szW G w)),some (.int .i64 (valW w))]∧q.2 = h2) ?_ fun q hq=>?_
  ·refine W.ite (fun c3=>?_) (fun c3=>?_)
   ·have c3 : valW w < 100000:=by simpa using c3
    refine W.inl ⟨?_,rfl⟩
    unfold nxt; rw [if_pos c3]
   ·have c3 : ¬ valW w < 100000:=by simpa using c3
    refine W.joinP (fun q=>q.1 = [some (.int .i64 w),some (.int .i64 fr),some (.pointer (at0 h.length)),some (.int .i64 (szW G w)),some (.int .i64 (valW w)),some (.bool (decide (valW w < 100000 + G.mark∧fr > 100000 + G.mark)))]∧q.2 = h2) ?_ fun q hq=>?_
    ·((try simp only [n1,n2,n3,n4,n5,n6] at d); (with_reducible repeat first|refine W.a1 d ?_|refine W.a2 ?_|refine W.a3 ?_|refine W.bo ?_|refine W.a5 d fun hw d lw kw=>?_|refine W.a6 d ?_|refine W.a7 ?_|refine W.a8 ?_))
     rw [w64i (n:=100000 + G.mark) (by omega) (by omega)]
     refine W.ite (fun c4=>?_) (fun c4=>?_)
     ·have c4 : valW w < 100000 + G.mark:=by simpa using c4
      ((try simp only [n1,n2,n3,n4,n5,n6] at d); (with_reducible repeat first|refine W.a1 d ?_|refine W.a2 ?_|refine W.a3 ?_|refine W.bo ?_|refine W.a5 d fun hw d lw kw=>?_|refine W.a6 d ?_|refine W.a7 ?_|refine W.a8 ?_))
      rw [w64i (n:=100000 + G.mark) (by omega) (by omega)]
      refine W.inl ⟨?_,rfl⟩
      simp [c4]
     ·have c4 : ¬ valW w < 100000 + G.mark:=by simpa using c4
      refine W.inl ⟨?_,rfl⟩
      simp [c4]
    obtain ⟨q1,q2⟩:=q
    obtain ⟨e,eq2⟩:=hq
    simp only at e eq2
    subst e; subst eq2
    ((try simp only [n1,n2,n3,n4,n5,n6] at d); (with_reducible repeat first|refine W.a1 d ?_|refine W.a2 ?_|refine W.a3 ?_|refine W.bo ?_|refine W.a5 d fun hw d lw kw=>?_|refine W.a6 d ?_|refine W.a7 ?_|refine W.a8 ?_))
    refine W.ite (fun c5=>?_) (fun c5=>?_)
    ·have c5 : valW w < 100000 + G.mark∧fr > 100000 + G.mark:=of_decide_eq_true c5
     ((try simp only [n1,n2,n3,n4,n5,n6] at d); (with_reducible repeat first|refine W.a1 d ?_|refine W.a2 ?_|refine W.a3 ?_|refine W.bo ?_|refine W.a5 d fun hw d lw kw=>?_|refine W.a6 d ?_|refine W.a7 ?_|refine W.a8 ?_))
     rw [w64i (n:=100000 + G.mark) (by omega) (by omega)]
     refine W.inl ⟨?_,rfl⟩
     unfold nxt; rw [if_neg c3,if_pos c5]
    ·have c5 : ¬ (valW w < 100000 + G.mark∧fr > 100000 + G.mark):=fun h=>c5 (decide_eq_true h)
     refine W.inl ⟨?_,rfl⟩
     unfold nxt; rw [if_neg c3,if_neg c5]
  obtain ⟨q1,q2⟩:=q
  obtain ⟨e,eq2⟩:=hq
  simp only at e eq2
  subst e; subst eq2
  ((try simp only [n1,n2,n3,n4,n5,n6] at d); (with_reducible repeat first|refine W.a1 d ?_|refine W.a2 ?_|refine W.a3 ?_|refine W.bo ?_|refine W.a5 d fun hw d lw kw=>?_|refine W.a6 d ?_|refine W.a7 ?_|refine W.a8 ?_))
  obtain ⟨a',h3,e3,s3,k3,x3⟩:=l6Words_run (base:=base) (p:=valW w) (n:=szW G w) hG (valW_ok hwk) ⟨by omega,by omega⟩ (d.rs (i:=0) rfl : GnO base q2 oa ya G) d.ge
  refine W.bs e3 ?_
  have d:=d.kN k3
  ((try simp only [n1,n2,n3,n4,n5,n6] at d); (with_reducible repeat first|refine W.a1 d ?_|refine W.a2 ?_|refine W.a3 ?_|refine W.bo ?_|refine W.a5 d fun hw d lw kw=>?_|refine W.a6 d ?_|refine W.a7 ?_|refine W.a8 ?_))
  refine W.joinP (fun q=>q = ([some (.int .i64 w),some (.int .i64 (nxt G (valW w) fr)),some (.pointer (at0 h.length)),some (.slice a' (gws G (valW w) (szW G w)).length (gws G (valW w) (szW G w)).length),some (.int .i64 (((if tagW w = 5 then 0 else 1 : Nat)) : Int))],h3)) ?_ fun q hq=>?_
  ·refine W.bs specTag_run ?_
   ((try simp only [n1,n2,n3,n4,n5,n6] at d); (with_reducible repeat first|refine W.a1 d ?_|refine W.a2 ?_|refine W.a3 ?_|refine W.bo ?_|refine W.a5 d fun hw d lw kw=>?_|refine W.a6 d ?_|refine W.a7 ?_|refine W.a8 ?_))
   refine W.ite (fun t=>?_) (fun t=>?_)
   ·have t : ¬ tagW w = 5:=by simpa using t
    rw [if_neg t]; exact W.inl rfl
   ·have t : tagW w = 5:=by simpa using t
    rw [if_pos t]; exact W.inl rfl
  subst hq
  ((try simp only [n1,n2,n3,n4,n5,n6] at d); (with_reducible repeat first|refine W.a1 d ?_|refine W.a2 ?_|refine W.a3 ?_|refine W.bo ?_|refine W.a5 d fun hw d lw kw=>?_|refine W.a6 d ?_|refine W.a7 ?_|refine W.a8 ?_))
  have hfr2 : wOk (nxt G (valW w) fr):=by
   unfold nxt
   split
   ·exact ⟨by decide,by decide⟩
   ·split
    ·exact ⟨by omega,by omega⟩
    ·exact hfr
  have eL : lnW G (n + 1) w fr = (chW G w).all (fun x=>lnW G n x (nxt G (valW w) fr)):=by
   rw [lnW,c,c2]; rfl
  rw [eL]
  by_cases t6 : tagW w = 6
  ·have ec : chW G w = []:=by unfold chW; rw [if_neg (by omega),if_neg (by omega)]
   rw [ec]
   suffices w1 : ∀ (i : Nat) (L : List Int),Wp (loopL (B145_0 base) [some (.int .i64 w),some (.int .i64 (nxt G (valW w) fr)),some (.pointer (at0 h.length)),some (.slice a' L.length L.length),some (.int .i64 (i : Int))] h3) fun o=>o = (2,[],h3) by
    refine W.wb (w1 _ _) ?_
    rintro o rfl
    exact W.ifF (show ¬ (2 : Nat) = 1 by decide) (W.ifT rfl (W.ret ⟨rfl,d.kb⟩))
   intro i L
   suffices w2 : Wp (B145_0 base [some (.int .i64 w),some (.int .i64 (nxt G (valW w) fr)),some (.pointer (at0 h.length)),some (.slice a' L.length L.length),some (.int .i64 (i : Int))] h3) fun o=>o = (2,[],h3) by
    obtain ⟨o,e,rfl⟩:=w2
    exact ⟨_,loop_off (by decide) e,rfl⟩
   rw [B145_0_eq]
   refine W.joinP (fun q=>q = ([some (.int .i64 w),some (.int .i64 (nxt G (valW w) fr)),some (.pointer (at0 h.length)),some (.slice a' L.length L.length),some (.int .i64 (i : Int)),some (.bool false)],h3)) ?_ fun q hq=>?_
   ·refine W.ite (fun _=>?_) (fun _=>W.inl rfl)
    refine W.bs specTag_run ?_
    ((try simp only [n1,n2,n3,n4,n5,n6] at d); (with_reducible repeat first|refine W.a1 d ?_|refine W.a2 ?_|refine W.a3 ?_|refine W.bo ?_|refine W.a5 d fun hw d lw kw=>?_|refine W.a6 d ?_|refine W.a7 ?_|refine W.a8 ?_))
    refine W.inl ?_
    rw [t6]; rfl
   subst hq
   ((try simp only [n1,n2,n3,n4,n5,n6] at d); (with_reducible repeat first|refine W.a1 d ?_|refine W.a2 ?_|refine W.a3 ?_|refine W.bo ?_|refine W.a5 d fun hw d lw kw=>?_|refine W.a6 d ?_|refine W.a7 ?_|refine W.a8 ?_))
   exact W.ifF (by decide) (W.ret rfl)
  ·obtain ⟨ec,hl9,hfi⟩:=chW_gws ho hf.1 t6 c
   have hB : gwB G (valW w) (szW G w) = true ∨ gws G (valW w) (szW G w) = []:=by
    cases hb2 : gwB G (valW w) (szW G w) with
    | true=>exact .inl rfl
    | false=>right; unfold gws; rw [if_neg (by rw [hb2]; decide)]
   have hs3 : ∀ y,GnO base y oa ya G→Sl y a' (iv .i64 (gws G (valW w) (szW G w))):=fun y hy=>by
    rcases hB with hB|hB
    ·rw [x3 hB]; exact hy.sl hB
    ·rw [hB]; exact .inl rfl
   refine W.wb (l6Links_loop (base:=base) (n:=n) (L:=gws G (valW w) (szW G w)) (w:=w) (A:=fun y=>GnO base y oa ya G) hl9 (fun i hi hfi2=>?_) t6 hfr2 (fun y hy=>⟨hy,hs3 y hy⟩) ih ((gws G (valW w) (szW G w)).length - (if tagW w = 5 then 0 else 1)) (if tagW w = 5 then 0 else 1) h3 (by omega) (Nat.le_refl _) d) ?_
   ·have hm : (gws G (valW w) (szW G w))[i] ∈ chW G w:=by
     rw [← ec]
     rw [List.mem_iff_getElem]
     refine ⟨i - (if tagW w = 5 then 0 else 1),by rw [List.length_drop]; omega,?_⟩
     rw [List.getElem_drop]
     congr 1
     omega
    exact ⟨chW_ok hG hm,hf.2 _ hm⟩
   rintro ⟨o1,o2,h4⟩ ⟨y1,d⟩
   simp only at y1 d
   rw [ec] at y1
   cases ha : (chW G w).all (fun x=>lnW G n x (nxt G (valW w) fr)) with
   | true=>
    rw [ha,if_pos rfl] at y1
    subst y1
    exact W.ifF (show ¬ (2 : Nat) = 1 by decide) (W.ifT rfl (W.ret ⟨rfl,d.kb⟩))
   | false=>
    rw [ha,if_neg (by decide)] at y1
    obtain ⟨y1,y2⟩:=y1
    subst y1; subst y2
    exact W.ifT rfl (W.bB rfl (W.ret ⟨rfl,d.kb⟩))
end Go.Proofs.Ytkdenmdijdmnjaa.Am
set_option linter.unusedSimpArgs false
set_option linter.unusedVariables false
namespace Go.Proofs.Ytkdenmdijdmnjaa.Am
open Go Go.RowKit
def stV (l : List ByteArray) : List Value:=l.map .string
theorem stV_len (l : List ByteArray) : (stV l).length = l.length:=List.length_map _
def aix (s : ByteArray) : List ByteArray→Nat→Int
 | [],_=>-1
 | x :: r,i=>if (x.toList == s.toList) = true then (i : Int) else aix s r (i + 1)
theorem str_at {h : AH} {a : Option Addr} {l : List ByteArray} (hs : Sl h a (stV l)) {i : Nat} (hi : i < l.length) : ∃ ad,a = some ad∧Am.cell h ad.block (ad.off + i) = some (.string l[i]):=
 hs.cell (i:=i) (v:=.string l[i]) (by unfold stV; simp [hi])
theorem aix_nn (s : ByteArray) : ∀ (l : List ByteArray) (k : Nat),decide (aix s l k ≥ 0) = l.any fun x=>x.toList == s.toList
 | [],k=>rfl
 | x :: r,k=>by
  rw [aix,List.any_cons]
  cases hc : (x.toList == s.toList) with
  | true=>rw [if_pos rfl]; simp
  | false=>rw [if_neg (by decide),aix_nn s r (k + 1),Bool.false_or]
theorem aix_eq (s : ByteArray) : ∀ (l : List ByteArray) (k i : Nat) (hi : i < l.length),l[i] = s→(aix s l k != ((k + i : Nat) : Int)) = (l.take i).any fun x=>x.toList == s.toList
 | [],k,i,hi,_=>by simp at hi
 | x :: r,k,0,hi,e=>by
  simp only [List.getElem_cons_zero] at e
  subst e
  rw [aix,if_pos (by simp)]
  simp
 | x :: r,k,i + 1,hi,e=>by
  rw [aix,List.take_succ_cons,List.any_cons]
  cases hc : (x.toList == s.toList) with
  | true=>
   rw [if_pos rfl,Bool.true_or,bne_iff_ne]
   omega
  | false=>
   rw [if_neg (by decide),Bool.false_or,← aix_eq s r (k + 1) i (by simpa using hi) (by simpa using e)]
   rw [show k + (i + 1) = k + 1 + i from by omega]
theorem specAtomAt_run {base : Nat} {h : AH} {l : List ByteArray} {a : Option Addr} {s : ByteArray} (hl : l.length≤9223372036854775807) (hs : Sl h a (stV l)) : run (Et base) 185 [.slice a l.length l.length,.string s] h = some (.int .i64 (aix s l 0),h):=by
 have loop : ∀ (r i : Nat),i + r = l.length→loopL (B185_0 base) [some (.slice a l.length l.length),some (.string s),some (.int .i64 (i : Int))] h = some (if aix s (l.drop i) i = -1 then (2,[],h) else (1,[some (.int .i64 (aix s (l.drop i) i))],h)):=by
  intro r
  induction r with
  | zero=>
   intro i hi
   rw [List.drop_of_length_le (by omega)]
   refine loop_off (by decide) ?_
   rw [B185_0_eq]
   exact ifF (by simp; omega) rfl
  | succ r ih=>
   intro i hi
   have hlt : i < l.length:=by omega
   obtain ⟨ad,rfl,g⟩:=str_at hs hlt
   rw [List.drop_eq_getElem_cons hlt,aix]
   cases hc : (l[i].toList == s.toList) with
   | true=>
    rw [if_pos rfl,if_neg (by omega)]
    refine loop_off (by decide) ?_
    rw [B185_0_eq]
    refine ifT (decide_eq_true (by omega)) (ifT (by omega) (bs rfl (bT (by rw [show Int.toNat (i : Int) * 1 = i from by simp]; exact g) (ifT hc rfl))))
   | false=>
    simp only [Bool.false_eq_true,if_false]
    refine loop_on ?_ (ih (i + 1) (by omega))
    rw [B185_0_eq]
    refine ifT (decide_eq_true (by omega)) (ifT (by omega) (bs rfl (bT (by rw [show Int.toNat (i : Int) * 1 = i from by simp]; exact g) (ifF (by rw [hc]; decide) ?_))))
    rw [w64i (by omega) (by omega)]
    rfl
 have e:=loop l.length 0 (by omega)
 rw [show ((0 : Nat) : Int) = 0 from rfl,List.drop_zero] at e
 refine Am.r185 (bs e ?_)
 by_cases c : aix s l 0 = -1
 ·rw [if_pos c]
  exact ifF (show ¬ (2 : Nat) = 1 by decide) (ifT rfl (by rw [c]))
 ·rw [if_neg c]
  exact ifT rfl (bI rfl rfl)
theorem implAtomAt_run {base : Nat} {h : AH} {l : List ByteArray} {a : Option Addr} {s : ByteArray} (hl : l.length≤9223372036854775807) (hs : Sl h a (stV l)) : run (Et base) 159 [.slice a l.length l.length,.string s] h = some (.int .i64 (aix s l 0),h):=by
 have loop : ∀ (r i : Nat),i + r = l.length→loopL (B159_0 base) [some (.string s),some (.slice a l.length l.length),some (.int .i64 (l.length : Int)),some (.int .i64 (i : Int))] h = some (if aix s (l.drop i) i = -1 then (2,[],h) else (1,[some (.int .i64 (aix s (l.drop i) i))],h)):=by
  intro r
  induction r with
  | zero=>
   intro i hi
   rw [List.drop_of_length_le (by omega)]
   refine loop_off (by decide) ?_
   rw [B159_0_eq]
   exact ifF (by simp; omega) rfl
  | succ r ih=>
   intro i hi
   have hlt : i < l.length:=by omega
   obtain ⟨ad,rfl,g⟩:=str_at hs hlt
   rw [List.drop_eq_getElem_cons hlt,aix]
   cases hc : (l[i].toList == s.toList) with
   | true=>
    rw [if_pos rfl,if_neg (by omega)]
    refine loop_off (by decide) ?_
    rw [B159_0_eq]
    refine ifT (decide_eq_true (by omega)) (ifT (by omega) (bs rfl (bT (by rw [show Int.toNat (i : Int) * 1 = i from by simp]; exact g) (ifT hc rfl))))
   | false=>
    simp only [Bool.false_eq_true,if_false]
    refine loop_on ?_ (ih (i + 1) (by omega))
    rw [B159_0_eq]
    refine ifT (decide_eq_true (by omega)) (ifT (by omega) (bs rfl (bT (by rw [show Int.toNat (i : Int) * 1 = i from by simp]; exact g) (ifF (by rw [hc]; decide) ?_))))
    rw [w64i (by omega) (by omega)]
    rfl
 have e:=loop l.length 0 (by omega)
 rw [show ((0 : Nat) : Int) = 0 from rfl,List.drop_zero] at e
 refine Am.r159 (bs e ?_)
 by_cases c : aix s l 0 = -1
 ·rw [if_pos c]
  exact ifF (show ¬ (2 : Nat) = 1 by decide) (ifT rfl (by rw [c]))
 ·rw [if_neg c]
  exact ifT rfl (bI rfl rfl)
def atBad (l : List ByteArray) (i : Nat) : Bool:=!atomOk (l.getD i ⟨#[]⟩) || (l.take i).any fun x=>x.toList == (l.getD i ⟨#[]⟩).toList
def atAny (l : List ByteArray) : Nat→Nat→Bool
 | 0,_=>false
 | r + 1,i=>atBad l i || atAny l r (i + 1)
def atsOk (l : List ByteArray) : Bool:=!atAny l l.length 0 && decide ((l.length : Int)≤200)
theorem l5Atoms_run {base : Nat} {h : AH} {l : List ByteArray} {a : Option Addr} (hl : l.length≤9223372036854775807) (hz : ∀ s ∈ l,s.size≤9223372036854775807) (hs : Sl h a (stV l)) : run (Et base) 144 [.slice a l.length l.length] h = some (.bool (atsOk l),h):=by
 have loop : ∀ (r i : Nat),i + r = l.length→loopL (B144_0 base) [some (.slice a l.length l.length),some (.int .i64 (i : Int))] h = some (if atAny l r i = true then (1,[some (.bool false)],h) else (2,[some (.slice a l.length l.length)],h)):=by
  intro r
  induction r with
  | zero=>
   intro i hi
   rw [atAny,if_neg (by decide)]
   refine loop_off (by decide) ?_
   rw [B144_0_eq]
   exact ifF (by simp; omega) rfl
  | succ r ih=>
   intro i hi
   have hlt : i < l.length:=by omega
   have eg : l.getD i ⟨#[]⟩ = l[i]:=by simp [hlt]
   obtain ⟨ad,rfl,g⟩:=str_at hs hlt
   have step : B144_0 base [some (.slice (some ad) l.length l.length),some (.int .i64 (i : Int))] h = some (if atBad l i = true then (1,[some (.bool false)],h) else (0,[some (.slice (some ad) l.length l.length),some (.int .i64 ((i + 1 : Nat) : Int))],h)):=by
    have e1 : IntKind.i64.wrap ((i : Int) + 1) = ((i + 1 : Nat) : Int):=by rw [w64i (by omega) (by omega)]; rfl
    rw [B144_0_eq]
    refine ifT (decide_eq_true (by omega)) ?_
    refine bj (q:=([some (.slice (some ad) l.length l.length),some (.int .i64 (i : Int)),some (.bool (atBad l i))],h)) ?_ ?_
    ·refine ifT (by omega) (bs rfl (bT (by rw [show Int.toNat (i : Int) * 1 = i from by simp]; exact g) ?_))
     refine bs (specAtomOk_run (hz _ (List.getElem_mem _))) (bB rfl ?_)
     unfold atBad
     rw [eg]
     cases hc : atomOk l[i] with
     | false=>exact ifT rfl rfl
     | true=>
      refine ifF (by decide) (ifT (by omega) (bs rfl (bT (by rw [show Int.toNat (i : Int) * 1 = i from by simp]; exact g) ?_)))
      refine bs (specAtomAt_run hl hs) (bI rfl ?_)
      have:=aix_eq l[i] l 0 i hlt rfl
      rw [Nat.zero_add] at this
      rw [this]
      rfl
    ·refine bS rfl (bI rfl (bB rfl ?_))
     cases atBad l i with
     | true=>exact ifT rfl rfl
     | false=>exact ifF (by decide) (by rw [e1]; rfl)
   rw [atAny]
   cases hb : atBad l i with
   | true=>
    rw [hb,if_pos rfl] at step
    rw [Bool.true_or,if_pos rfl]
    exact loop_off (by decide) step
   | false=>
    rw [hb,if_neg (by decide)] at step
    rw [Bool.false_or]
    exact loop_on step (ih (i + 1) (by omega))
 have e:=loop l.length 0 (by omega)
 rw [show ((0 : Nat) : Int) = 0 from rfl] at e
 refine Am.r144 (bs e ?_)
 unfold atsOk
 cases atAny l l.length 0 with
 | true=>exact ifT rfl (bB rfl rfl)
 | false=>exact ifF (show ¬ (2 : Nat) = 1 by decide) (ifT rfl (bS rfl rfl))
theorem atomsOk_run {base : Nat} {h : AH} {l : List ByteArray} {a : Option Addr} (hl : l.length≤9223372036854775807) (hz : ∀ s ∈ l,s.size≤9223372036854775807) (hty : TyOk base h a 9) (hs : Sl h a (stV l)) : run (Et base) 107 [.slice a l.length l.length] h = some (.bool (atsOk l),h):=by
 have loop : ∀ (r i : Nat),i + r = l.length→loopL (B107_0 base) [some (.slice a l.length l.length),some (.slice a l.length l.length),some (.int .i64 (l.length : Int)),some (.int .i64 (i : Int))] h = some (if atAny l r i = true then (1,[some (.bool false)],h) else (2,[some (.slice a l.length l.length)],h)):=by
  intro r
  induction r with
  | zero=>
   intro i hi
   rw [atAny,if_neg (by decide)]
   refine loop_off (by decide) ?_
   rw [B107_0_eq]
   exact ifF (by simp; omega) rfl
  | succ r ih=>
   intro i hi
   have hlt : i < l.length:=by omega
   have eg : l.getD i ⟨#[]⟩ = l[i]:=by simp [hlt]
   obtain ⟨ad,rfl,g⟩:=str_at hs hlt
   have step : B107_0 base [some (.slice (some ad) l.length l.length),some (.slice (some ad) l.length l.length),some (.int .i64 (l.length : Int)),some (.int .i64 (i : Int))] h = some (if atBad l i = true then (1,[some (.bool false)],h) else (0,[some (.slice (some ad) l.length l.length),some (.slice (some ad) l.length l.length),some (.int .i64 (l.length : Int)),some (.int .i64 ((i + 1 : Nat) : Int))],h)):=by
    have e1 : IntKind.i64.wrap ((i : Int) + 1) = ((i + 1 : Nat) : Int):=by rw [w64i (by omega) (by omega)]; rfl
    rw [B107_0_eq]
    refine ifT (decide_eq_true (by omega)) (ifT (by omega) (bs rfl (bT (by rw [show Int.toNat (i : Int) * 1 = i from by simp]; exact g) ?_)))
    refine bj (q:=([some (.slice (some ad) l.length l.length),some (.slice (some ad) l.length l.length),some (.int .i64 (l.length : Int)),some (.int .i64 (i : Int)),some (.bool (atBad l i))],h)) ?_ ?_
    ·refine bs (implAtomOk_run (hz _ (List.getElem_mem _))) (bB rfl ?_)
     unfold atBad
     rw [eg]
     cases hc : atomOk l[i] with
     | false=>exact ifT rfl rfl
     | true=>
      refine ifF (by decide) (ifT ⟨by omega,by omega,by omega,hty.ok _⟩ ?_)
      have hp : Sl h (shiftA (some ad) 0) (stV (l.take i)):=by
       have:=hs.part (n:=0) (m:=i) (by rw [stV_len]; omega)
       rw [List.drop_zero] at this
       unfold stV at this ⊢
       rw [List.map_take]
       exact this
      have hlen : (l.take i).length = i:=by rw [List.length_take]; omega
      have e2:=implAtomAt_run (base:=base) (l:=l.take i) (s:=l[i]) (by omega) hp
      rw [hlen] at e2
      refine bs e2 (bI rfl ?_)
      rw [aix_nn]
      rfl
    ·refine bS rfl (bS rfl (bI rfl (bI rfl (bB rfl ?_))))
     cases atBad l i with
     | true=>exact ifT rfl rfl
     | false=>exact ifF (by decide) (by rw [e1]; rfl)
   rw [atAny]
   cases hb : atBad l i with
   | true=>
    rw [hb,if_pos rfl] at step
    rw [Bool.true_or,if_pos rfl]
    exact loop_off (by decide) step
   | false=>
    rw [hb,if_neg (by decide)] at step
    rw [Bool.false_or]
    exact loop_on step (ih (i + 1) (by omega))
 have e:=loop l.length 0 (by omega)
 rw [show ((0 : Nat) : Int) = 0 from rfl] at e
 refine Am.r107 (bs e ?_)
 unfold atsOk
 cases atAny l l.length 0 with
 | true=>exact ifT rfl (bB rfl rfl)
 | false=>exact ifF (show ¬ (2 : Nat) = 1 by decide) (ifT rfl (bS rfl rfl))
end Go.Proofs.Ytkdenmdijdmnjaa.Am
set_option linter.unusedSimpArgs false
set_option linter.unusedVariables false
namespace Go.Proofs.Ytkdenmdijdmnjaa.Am
open Go Go.RowKit
def rootOk (G : Gn) (ats : List ByteArray) (w : Int) : Bool:=(gRd G ats w).2 && dnW G 133 w
def gHead (G : Gn) (ats : List ByteArray) : Bool:=if decide ((G.old.length : Int) > 1000) = true then true else if decide ((G.young.length : Int) > 1000) = true then true else if (!inB G.mark 0 G.young.length) = true then true else !atsOk ats
def gOk (G : Gn) (ats : List ByteArray) (roots : List Int) : Bool:=!gHead G ats && roots.all (rootOk G ats)
theorem gHead_ok {G : Gn} {ats : List ByteArray} (h : gHead G ats = false) : G.old.length≤1000∧G.young.length≤1000∧(0≤G.mark∧G.mark≤G.young.length)∧atsOk ats = true:=by
 unfold gHead at h
 by_cases a : (G.old.length : Int) > 1000
 ·rw [if_pos (decide_eq_true a)] at h; cases h
 rw [if_neg (by simpa using a)] at h
 by_cases b : (G.young.length : Int) > 1000
 ·rw [if_pos (decide_eq_true b)] at h; cases h
 rw [if_neg (by simpa using b)] at h
 cases c : inB G.mark 0 G.young.length with
 | false=>rw [c] at h; cases h
 | true=>
  rw [c] at h
  have c : 0≤G.mark∧G.mark≤G.young.length:=by unfold inB at c; simpa using c
  refine ⟨by omega,by omega,c,?_⟩
  simpa using h
theorem gRd_fue {G : Gn} {ats : List ByteArray} {w : Int} (h : (gRd G ats w).2 = true) : Fue G 133 w:=by
 obtain ⟨y,e,_⟩:=gRd_ok h
 exact rdT_fue 6 w 0 y e
abbrev gnD (base : Nat) (V : Fp) (h0 h : AH) (sb : Nat) (oa ya : Option Addr) (G : Gn) (S : Fp) (m : Bool) (A : AH→Prop) : Prop:=Hs base V h0 h [(sb,63,gensV oa ya G)] [⟨S,m,A⟩]
theorem implGensOk_loop {base sb : Nat} {oa ya aa ra : Option Addr} {G : Gn} {ats : List ByteArray} {roots : List Int} {S V : Fp} {m : Bool} {A : AH→Prop} {h0 : AH} (hG : G.Ok) (ha : ats.length≤1048576) (hz : ∀ s ∈ ats,s.size≤maxLen) (hr : ∀ w ∈ roots,wOk w) (hrl : roots.length≤9223372036854775807) (hA : ∀ y,A y→RdA base oa ya G aa ats y∧Sl y ra (iv .i64 roots)) : ∀ (r i : Nat) (h : AH),i + r = roots.length→gnD base V h0 h sb oa ya G S m A →
  Wp (loopL (B50_0 base) [some (.slice aa ats.length ats.length),some (.pointer (at0 sb)),some (.slice ra roots.length roots.length),some (.int .i64 (roots.length : Int)),some (.int .i64 (i : Int))] h) fun o=>(if (roots.drop i).all (rootOk G ats) = true then o.1 = 2 else o.1 = 1∧o.2.1 = [some (.bool false)])∧gnD base V h0 o.2.2 sb oa ya G S m A:=by
 intro r
 induction r with
 | zero=>
  intro i h hi d
  suffices w1 : Wp (B50_0 base [some (.slice aa ats.length ats.length),some (.pointer (at0 sb)),some (.slice ra roots.length roots.length),some (.int .i64 (roots.length : Int)),some (.int .i64 (i : Int))] h) fun o=>o = (2,[],h) by
   obtain ⟨o,e,rfl⟩:=w1
   refine ⟨_,loop_off (by decide) e,?_,d⟩
   rw [List.drop_of_length_le (by omega)]
   rfl
  rw [B50_0_eq]
  exact W.ifF (by simp; omega) (W.ret rfl)
 | succ r ihr=>
  intro i h hi d
  have hlt : i < roots.length:=by omega
  have hwk:=hr roots[i] (List.getElem_mem _)
  have ed : roots.drop i = roots[i] :: roots.drop (i + 1):=List.drop_eq_getElem_cons hlt
  suffices w1 : Wp (B50_0 base [some (.slice aa ats.length ats.length),some (.pointer (at0 sb)),some (.slice ra roots.length roots.length),some (.int .i64 (roots.length : Int)),some (.int .i64 (i : Int))] h) fun o=>(if rootOk G ats roots[i] = true then o.1 = 0∧o.2.1 = [some (.slice aa ats.length ats.length),some (.pointer (at0 sb)),some (.slice ra roots.length roots.length),some (.int .i64 (roots.length : Int)),some (.int .i64 ((i : Int) + 1))] else o.1 = 1∧o.2.1 = [some (.bool false)])∧gnD base V h0 o.2.2 sb oa ya G S m A by
   obtain ⟨⟨o1,o2,h'⟩,e,y1,d'⟩:=w1
   simp only at y1 d'
   cases hc : rootOk G ats roots[i] with
   | true=>
    rw [hc,if_pos rfl] at y1
    obtain ⟨y1,y2⟩:=y1
    subst y1; subst y2
    obtain ⟨o,eo,z1,z2⟩:=ihr (i + 1) h' (by omega) d'
    refine ⟨o,loop_on e eo,?_,z2⟩
    rw [ed,List.all_cons,hc,Bool.true_and]
    exact z1
   | false=>
    rw [hc,if_neg (by decide)] at y1
    obtain ⟨y1,y2⟩:=y1
    subst y1; subst y2
    refine ⟨_,loop_off (by decide) e,?_,d'⟩
    rw [ed,List.all_cons,hc,Bool.false_and,if_neg (by decide)]
    exact ⟨rfl,rfl⟩
  rw [B50_0_eq]
  refine W.ifT (decide_eq_true (by omega)) (W.ifT (by omega) ?_)
  obtain ⟨hrd,hrs⟩:=hA _ (d.rs (i:=0) rfl)
  obtain ⟨ad,rfl,g⟩:=hrs.int hlt
  refine W.bs rfl (W.bs (by rw [show Int.toNat (i : Int) * 1 = i from by simp]; exact g) ?_)
  ((try simp only [n1,n2,n3,n4,n5,n6] at d); (with_reducible repeat first|refine W.a1 d ?_|refine W.a2 ?_|refine W.a3 ?_|refine W.bo ?_|refine W.a5 d fun hw d lw kw=>?_|refine W.a6 d ?_|refine W.a7 ?_|refine W.a8 ?_))
  obtain ⟨cs',h1,e1,t1,k1⟩:=implGensRead_run (base:=base) hG ha hz hwk hrd d.ge
  refine W.bs e1 ?_
  obtain ⟨z1,z2,z3,z4,z5,rfl⟩:=t1.form
  have d:=d.kN k1
  ((try simp only [n1,n2,n3,n4,n5,n6] at d); (with_reducible repeat first|refine W.a1 d ?_|refine W.a2 ?_|refine W.a3 ?_|refine W.bo ?_|refine W.a5 d fun hw d lw kw=>?_|refine W.a6 d ?_|refine W.a7 ?_|refine W.a8 ?_); (refine W.nD d fun h2 d _ kh2=>?_); (with_reducible repeat first|refine W.a1 d ?_|refine W.a2 ?_|refine W.a3 ?_|refine W.bo ?_|refine W.a5 d fun hw d lw kw=>?_|refine W.a6 d ?_|refine W.a7 ?_|refine W.a8 ?_))
  have d:=d.tl
  refine W.joinP (fun q=>q.1 = [some (.slice aa ats.length ats.length),some (.pointer (at0 sb)),some (.slice (some ad) roots.length roots.length),some (.int .i64 (roots.length : Int)),some (.int .i64 (i : Int)),some (.bool (!rootOk G ats roots[i]))]∧gnD base V h0 q.2 sb oa ya G S m A) ?_ fun q hq=>?_
  ·unfold rootOk
   refine W.ite (fun c=>?_) (fun c=>?_)
   ·have c : (gRd G ats roots[i]).2 = false:=by simpa using c
    refine W.inl ⟨?_,d⟩
    rw [c]; rfl
   ·have c : (gRd G ats roots[i]).2 = true:=by simpa using c
    obtain ⟨h3,e3,k3⟩:=downward_all (base:=base) (gb:=sb) hG 133 hw roots[i] hwk (gRd_fue c) (d.lt (.head _)) ⟨d.getI (.head _) rfl,d.getI (.head _) rfl,d.getI (.head _) rfl,(hA _ (d.rs (i:=0) rfl)).1.gnO⟩ d.ge
    refine W.bs e3 ?_
    have d:=d.kN k3
    ((try simp only [n1,n2,n3,n4,n5,n6] at d); (with_reducible repeat first|refine W.a1 d ?_|refine W.a2 ?_|refine W.a3 ?_|refine W.bo ?_|refine W.a5 d fun hw d lw kw=>?_|refine W.a6 d ?_|refine W.a7 ?_|refine W.a8 ?_))
    refine W.inl ⟨?_,d⟩
    rw [c]; rfl
  obtain ⟨q1,q2⟩:=q
  obtain ⟨e,d⟩:=hq
  simp only at e d
  subst e
  ((try simp only [n1,n2,n3,n4,n5,n6] at d); (with_reducible repeat first|refine W.a1 d ?_|refine W.a2 ?_|refine W.a3 ?_|refine W.bo ?_|refine W.a5 d fun hw d lw kw=>?_|refine W.a6 d ?_|refine W.a7 ?_|refine W.a8 ?_))
  cases hc : rootOk G ats roots[i] with
  | true=>
   refine W.ifF (by decide) (W.ret ⟨?_,d⟩)
   rw [w64i (n:=(i : Int) + 1) (by omega) (by omega),if_pos rfl]
   exact ⟨rfl,rfl⟩
  | false=>
   refine W.ifT rfl (W.ret ⟨?_,d⟩)
   rw [if_neg (by decide)]
   exact ⟨rfl,rfl⟩
theorem implGensOk_run {base : Nat} {oa ya aa ra : Option Addr} {G : Gn} {ats : List ByteArray} {roots : List Int} {h : AH} (hG : G.Ok) (ha : ats.length≤1048576) (hz : ∀ s ∈ ats,s.size≤maxLen) (hr : ∀ w ∈ roots,wOk w) (hrl : roots.length≤9223372036854775807) (x : RdA base oa ya G aa ats h) (xr : Sl h ra (iv .i64 roots)) (xt : TyOk base h ra 3) (hb : base≤h.length) :
  ∃ h',run (Et base) 50 [.agg (gensV oa ya G).toArray,.slice aa ats.length ats.length,.slice ra roots.length roots.length] h = some (.bool (gOk G ats roots),h')∧KB NoB h h':=by
 have xlt:=x.lt
 have d:=(Hs.start hb).inp (fun b=>b < h.length) (fun y=>RdA base oa ya G aa ats y∧Sl y ra (iv .i64 roots)) ⟨x,xr⟩ (fun U y y' k hS q=>⟨q.1.keep k fun i hi=>hS i (xlt i hi),q.2.keep k fun i hi=>hS i (xt.lt i hi)⟩) (fun b hb=>hb) (fun x hx=>nomatch hx) rfl
 suffices W : Wp (run (Et base) 50 [.agg (gensV oa ya G).toArray,.slice aa ats.length ats.length,.slice ra roots.length roots.length] h) fun o=>o.1 = .bool (gOk G ats roots)∧KB NoB h o.2 by
  obtain ⟨⟨o1,o2⟩,e,y1,y2⟩:=W
  simp only at y1 y2
  subst y1
  exact ⟨o2,e,y2⟩
 refine W.of (fun r hx=>Am.r50 hx) ?_
 ((try simp only [n1,n2,n3,n4,n5,n6] at d); (with_reducible repeat first|refine W.a1 d ?_|refine W.a2 ?_|refine W.a3 ?_|refine W.bo ?_|refine W.a5 d fun hw d lw kw=>?_|refine W.a6 d ?_|refine W.a7 ?_|refine W.a8 ?_); (refine W.nD d fun h1 d _ kh1=>?_); (with_reducible repeat first|refine W.a1 d ?_|refine W.a2 ?_|refine W.a3 ?_|refine W.bo ?_|refine W.a5 d fun hw d lw kw=>?_|refine W.a6 d ?_|refine W.a7 ?_|refine W.a8 ?_))
 apply W.jb (gHead G ats) d
 ·unfold gHead
  ((try simp only [n1,n2,n3,n4,n5,n6] at d); (with_reducible repeat first|refine W.a1 d ?_|refine W.a2 ?_|refine W.a3 ?_|refine W.bo ?_|refine W.a5 d fun hw d lw kw=>?_|refine W.a6 d ?_|refine W.a7 ?_|refine W.a8 ?_))
  refine W.ite (fun c=>?_) (fun c=>?_)
  ·rw [if_pos c]; exact W.lb rfl rfl (KB.refl _ _)
  rw [if_neg c]
  ((try simp only [n1,n2,n3,n4,n5,n6] at d); (with_reducible repeat first|refine W.a1 d ?_|refine W.a2 ?_|refine W.a3 ?_|refine W.bo ?_|refine W.a5 d fun hw d lw kw=>?_|refine W.a6 d ?_|refine W.a7 ?_|refine W.a8 ?_))
  refine W.ite (fun c=>?_) (fun c=>?_)
  ·rw [if_pos c]; exact W.lb rfl rfl (KB.refl _ _)
  rw [if_neg c]
  ((try simp only [n1,n2,n3,n4,n5,n6] at d); (with_reducible repeat first|refine W.a1 d ?_|refine W.a2 ?_|refine W.a3 ?_|refine W.bo ?_|refine W.a5 d fun hw d lw kw=>?_|refine W.a6 d ?_|refine W.a7 ?_|refine W.a8 ?_))
  refine W.bs in_run ?_
  ((try simp only [n1,n2,n3,n4,n5,n6] at d); (with_reducible repeat first|refine W.a1 d ?_|refine W.a2 ?_|refine W.a3 ?_|refine W.bo ?_|refine W.a5 d fun hw d lw kw=>?_|refine W.a6 d ?_|refine W.a7 ?_|refine W.a8 ?_))
  refine W.ite (fun c=>?_) (fun c=>?_)
  ·rw [if_pos c]; exact W.lb rfl rfl (KB.refl _ _)
  rw [if_neg c]
  have hx:=(d.rs (i:=0) rfl : RdA base oa ya G aa ats h1∧Sl h1 ra (iv .i64 roots)).1
  refine W.bs (atomsOk_run (by omega) (fun s hs=>by have:=hz s hs; unfold maxLen at this; omega) hx.2.2.1 hx.2.2.2.2) ?_
  ((try simp only [n1,n2,n3,n4,n5,n6] at d); (with_reducible repeat first|refine W.a1 d ?_|refine W.a2 ?_|refine W.a3 ?_|refine W.bo ?_|refine W.a5 d fun hw d lw kw=>?_|refine W.a6 d ?_|refine W.a7 ?_|refine W.a8 ?_))
  exact W.lb rfl rfl (KB.refl _ _)
 intro h2 d n2
 ((try simp only [n1,n2,n3,n4,n5,n6] at d); (with_reducible repeat first|refine W.a1 d ?_|refine W.a2 ?_|refine W.a3 ?_|refine W.bo ?_|refine W.a5 d fun hw d lw kw=>?_|refine W.a6 d ?_|refine W.a7 ?_|refine W.a8 ?_))
 unfold gOk
 refine W.ite (fun c=>?_) (fun c=>?_)
 ·rw [c]
  exact W.ret ⟨rfl,d.kb⟩
 ·have c : gHead G ats = false:=by simpa using c
  rw [c,Bool.not_false,Bool.true_and]
  refine W.wb (implGensOk_loop (base:=base) (roots:=roots) (A:=fun y=>RdA base oa ya G aa ats y∧Sl y ra (iv .i64 roots)) hG ha hz hr hrl (fun y hy=>hy) roots.length 0 h2 (by omega) d) ?_
  rintro ⟨o1,o2,h4⟩ ⟨y1,d⟩
  simp only at y1 d
  rw [List.drop_zero] at y1
  cases hc : roots.all (rootOk G ats) with
  | true=>
   rw [hc,if_pos rfl] at y1
   subst y1
   exact W.ifF (show ¬ (2 : Nat) = 1 by decide) (W.ifT rfl (W.ret ⟨rfl,d.kb⟩))
  | false=>
   rw [hc,if_neg (by decide)] at y1
   obtain ⟨y1,y2⟩:=y1
   subst y1; subst y2
   exact W.ifT rfl (W.bB rfl (W.ret ⟨rfl,d.kb⟩))
theorem specGensOk_loop {base sb : Nat} {oa ya aa ra : Option Addr} {G : Gn} {ats : List ByteArray} {roots : List Int} {S V : Fp} {m : Bool} {A : AH→Prop} {h0 : AH} (hG : G.Ok) (hh : gHead G ats = false) (ha : ats.length≤1048576) (hz : ∀ s ∈ ats,s.size≤maxLen) (hr : ∀ w ∈ roots,wOk w) (hrl : roots.length≤9223372036854775807) (hA : ∀ y,A y→RdA base oa ya G aa ats y∧Sl y ra (iv .i64 roots)) : ∀ (r i : Nat) (h : AH),i + r = roots.length→gnD base V h0 h sb oa ya G S m A →
  Wp (loopL (B95_0 base) [some (.slice aa ats.length ats.length),some (.slice ra roots.length roots.length),some (.pointer (at0 sb)),some (.int .i64 (i : Int))] h) fun o=>(if (roots.drop i).all (rootOk G ats) = true then o.1 = 2 else o.1 = 1∧o.2.1 = [some (.bool false)])∧gnD base V h0 o.2.2 sb oa ya G S m A:=by
 obtain ⟨b1,b2,b3,b4⟩:=gHead_ok hh
 intro r
 induction r with
 | zero=>
  intro i h hi d
  suffices w1 : Wp (B95_0 base [some (.slice aa ats.length ats.length),some (.slice ra roots.length roots.length),some (.pointer (at0 sb)),some (.int .i64 (i : Int))] h) fun o=>o = (2,[],h) by
   obtain ⟨o,e,rfl⟩:=w1
   refine ⟨_,loop_off (by decide) e,?_,d⟩
   rw [List.drop_of_length_le (by omega)]
   rfl
  rw [B95_0_eq]
  exact W.ifF (by simp; omega) (W.ret rfl)
 | succ r ihr=>
  intro i h hi d
  have hlt : i < roots.length:=by omega
  have hwk:=hr roots[i] (List.getElem_mem _)
  have ed : roots.drop i = roots[i] :: roots.drop (i + 1):=List.drop_eq_getElem_cons hlt
  suffices w1 : Wp (B95_0 base [some (.slice aa ats.length ats.length),some (.slice ra roots.length roots.length),some (.pointer (at0 sb)),some (.int .i64 (i : Int))] h) fun o=>(if rootOk G ats roots[i] = true then o.1 = 0∧o.2.1 = [some (.slice aa ats.length ats.length),some (.slice ra roots.length roots.length),some (.pointer (at0 sb)),some (.int .i64 ((i : Int) + 1))] else o.1 = 1∧o.2.1 = [some (.bool false)])∧gnD base V h0 o.2.2 sb oa ya G S m A by
   obtain ⟨⟨o1,o2,h'⟩,e,y1,d'⟩:=w1
   simp only at y1 d'
   cases hc : rootOk G ats roots[i] with
   | true=>
    rw [hc,if_pos rfl] at y1
    obtain ⟨y1,y2⟩:=y1
    subst y1; subst y2
    obtain ⟨o,eo,z1,z2⟩:=ihr (i + 1) h' (by omega) d'
    refine ⟨o,loop_on e eo,?_,z2⟩
    rw [ed,List.all_cons,hc,Bool.true_and]
    exact z1
   | false=>
    rw [hc,if_neg (by decide)] at y1
    obtain ⟨y1,y2⟩:=y1
    subst y1; subst y2
    refine ⟨_,loop_off (by decide) e,?_,d'⟩
    rw [ed,List.all_cons,hc,Bool.false_and,if_neg (by decide)]
    exact ⟨rfl,rfl⟩
  rw [B95_0_eq]
  refine W.ifT (decide_eq_true (by omega)) ?_
  ((try simp only [n1,n2,n3,n4,n5,n6] at d); (with_reducible repeat first|refine W.a1 d ?_|refine W.a2 ?_|refine W.a3 ?_|refine W.bo ?_|refine W.a5 d fun hw d lw kw=>?_|refine W.a6 d ?_|refine W.a7 ?_|refine W.a8 ?_))
  obtain ⟨hrd,hrs⟩:=hA _ (d.rs (i:=0) rfl)
  obtain ⟨ad,rfl,g⟩:=hrs.int hlt
  refine W.bs rfl (W.bs (by rw [show Int.toNat (i : Int) * 1 = i from by simp]; exact g) ?_)
  obtain ⟨cs',h1,e1,t1,k1⟩:=specGensRead_run (base:=base) hG b1 ha hz hwk hrd d.ge
  refine W.bs e1 ?_
  obtain ⟨z1,z2,z3,z4,z5,rfl⟩:=t1.form
  have d:=d.kN k1
  obtain ⟨ad0,e0,gc⟩:=(hA _ (d.rs (i:=0) rfl)).2.cell (i:=i) (v:=.int .i64 roots[i]) (by simp [iv,hlt])
  injection e0 with e0
  subst e0
  have hlt1:=cell_lt gc
  ((try simp only [n1,n2,n3,n4,n5,n6] at d); (with_reducible repeat first|refine W.a1 d ?_|refine W.a2 ?_|refine W.a3 ?_|refine W.bo ?_|refine W.a5 d fun hw d lw kw=>?_|refine W.a6 d ?_|refine W.a7 ?_|refine W.a8 ?_))
  refine W.gt (fun a e=>by injection e with e; subst e; exact Nat.ne_of_lt hlt1) ?_
  ((try simp only [n1,n2,n3,n4,n5,n6] at d); (with_reducible repeat first|refine W.a1 d ?_|refine W.a2 ?_|refine W.a3 ?_|refine W.bo ?_|refine W.a5 d fun hw d lw kw=>?_|refine W.a6 d ?_|refine W.a7 ?_|refine W.a8 ?_); (refine W.nD d fun h2 d _ kh2=>?_); (with_reducible repeat first|refine W.a1 d ?_|refine W.a2 ?_|refine W.a3 ?_|refine W.bo ?_|refine W.a5 d fun hw d lw kw=>?_|refine W.a6 d ?_|refine W.a7 ?_|refine W.a8 ?_))
  have d:=d.tl
  have eD : (gRd G ats roots[i]).2 = true→lnW G 133 roots[i] 200000 = dnW G 133 roots[i]:=fun c=>by
   have:=lnW_dnW hG b2 b3 133 roots[i] 2 (gRd_fue c) (by omega)
   rw [show frm G 2 = 200000 from rfl] at this
   rw [this]
   have hp:=(prt_le G (valW roots[i])).2
   have : decide (prt G (valW roots[i]) > 2) = false:=by simp; omega
   rw [this,Bool.and_false]; rfl
  refine W.joinP (fun q=>q.1 = [some (.slice aa ats.length ats.length),some (.slice (some ad) roots.length roots.length),some (.pointer (at0 sb)),some (.int .i64 (i : Int)),some (.bool (!rootOk G ats roots[i]))]∧gnD base V h0 q.2 sb oa ya G S m A) ?_ fun q hq=>?_
  ·unfold rootOk
   rw [← gRs_gRd]
   refine W.ite (fun c=>?_) (fun c=>?_)
   ·have c : (gRs G ats roots[i]).2 = false:=by simpa using c
    refine W.inl ⟨?_,d⟩
    rw [c]; rfl
   ·have c : (gRs G ats roots[i]).2 = true:=by simpa using c
    have c' : (gRd G ats roots[i]).2 = true:=by rw [← gRs_gRd]; exact c
    ((try simp only [n1,n2,n3,n4,n5,n6] at d); (with_reducible repeat first|refine W.a1 d ?_|refine W.a2 ?_|refine W.a3 ?_|refine W.bo ?_|refine W.a5 d fun hw d lw kw=>?_|refine W.a6 d ?_|refine W.a7 ?_|refine W.a8 ?_))
    obtain ⟨hrd2,hrs2⟩:=hA _ (d.rs (i:=0) rfl)
    obtain ⟨ad2,e2,g2⟩:=hrs2.int hlt
    injection e2 with e2
    subst e2
    refine W.bs (by rw [show Int.toNat (i : Int) * 1 = i from by simp]; exact g2) ?_
    obtain ⟨h3,e3,k3⟩:=l6Links_all (base:=base) hG b1 ⟨b3.1,by omega⟩ 133 hw roots[i] 200000 hwk (gRd_fue c') ⟨by decide,by decide⟩ hrd2.gnO d.ge
    refine W.bs e3 ?_
    have d:=d.kN k3
    ((try simp only [n1,n2,n3,n4,n5,n6] at d); (with_reducible repeat first|refine W.a1 d ?_|refine W.a2 ?_|refine W.a3 ?_|refine W.bo ?_|refine W.a5 d fun hw d lw kw=>?_|refine W.a6 d ?_|refine W.a7 ?_|refine W.a8 ?_))
    refine W.inl ⟨?_,d⟩
    rw [c,eD c']; rfl
  obtain ⟨q1,q2⟩:=q
  obtain ⟨e,d⟩:=hq
  simp only at e d
  subst e
  ((try simp only [n1,n2,n3,n4,n5,n6] at d); (with_reducible repeat first|refine W.a1 d ?_|refine W.a2 ?_|refine W.a3 ?_|refine W.bo ?_|refine W.a5 d fun hw d lw kw=>?_|refine W.a6 d ?_|refine W.a7 ?_|refine W.a8 ?_))
  cases hc : rootOk G ats roots[i] with
  | true=>
   refine W.ifF (by decide) (W.ret ⟨?_,d⟩)
   rw [w64i (n:=(i : Int) + 1) (by omega) (by omega),if_pos rfl]
   exact ⟨rfl,rfl⟩
  | false=>
   refine W.ifT rfl (W.ret ⟨?_,d⟩)
   rw [if_neg (by decide)]
   exact ⟨rfl,rfl⟩
theorem specGensOk_run {base : Nat} {oa ya aa ra : Option Addr} {G : Gn} {ats : List ByteArray} {roots : List Int} {h : AH} (hG : G.Ok) (ha : ats.length≤1048576) (hz : ∀ s ∈ ats,s.size≤maxLen) (hr : ∀ w ∈ roots,wOk w) (hrl : roots.length≤9223372036854775807) (x : RdA base oa ya G aa ats h) (xr : Sl h ra (iv .i64 roots)) (xt : TyOk base h ra 3) (hb : base≤h.length) :
  ∃ h',run (Et base) 95 [.agg (gensV oa ya G).toArray,.slice aa ats.length ats.length,.slice ra roots.length roots.length] h = some (.bool (gOk G ats roots),h')∧KB NoB h h':=by
 have xlt:=x.lt
 have d:=(Hs.start hb).inp (fun b=>b < h.length) (fun y=>RdA base oa ya G aa ats y∧Sl y ra (iv .i64 roots)) ⟨x,xr⟩ (fun U y y' k hS q=>⟨q.1.keep k fun i hi=>hS i (xlt i hi),q.2.keep k fun i hi=>hS i (xt.lt i hi)⟩) (fun b hb=>hb) (fun x hx=>nomatch hx) rfl
 suffices W : Wp (run (Et base) 95 [.agg (gensV oa ya G).toArray,.slice aa ats.length ats.length,.slice ra roots.length roots.length] h) fun o=>o.1 = .bool (gOk G ats roots)∧KB NoB h o.2 by
  obtain ⟨⟨o1,o2⟩,e,y1,y2⟩:=W
  simp only at y1 y2
  subst y1
  exact ⟨o2,e,y2⟩
 refine W.of (fun r hx=>Am.r95 hx) ?_
 ((try simp only [n1,n2,n3,n4,n5,n6] at d); (with_reducible repeat first|refine W.a1 d ?_|refine W.a2 ?_|refine W.a3 ?_|refine W.bo ?_|refine W.a5 d fun hw d lw kw=>?_|refine W.a6 d ?_|refine W.a7 ?_|refine W.a8 ?_); (refine W.nD d fun h1 d _ kh1=>?_); (with_reducible repeat first|refine W.a1 d ?_|refine W.a2 ?_|refine W.a3 ?_|refine W.bo ?_|refine W.a5 d fun hw d lw kw=>?_|refine W.a6 d ?_|refine W.a7 ?_|refine W.a8 ?_))
 apply W.jb (gHead G ats) d
 ·unfold gHead
  ((try simp only [n1,n2,n3,n4,n5,n6] at d); (with_reducible repeat first|refine W.a1 d ?_|refine W.a2 ?_|refine W.a3 ?_|refine W.bo ?_|refine W.a5 d fun hw d lw kw=>?_|refine W.a6 d ?_|refine W.a7 ?_|refine W.a8 ?_))
  refine W.ite (fun c=>?_) (fun c=>?_)
  ·rw [if_pos c]; exact W.lb rfl rfl (KB.refl _ _)
  rw [if_neg c]
  ((try simp only [n1,n2,n3,n4,n5,n6] at d); (with_reducible repeat first|refine W.a1 d ?_|refine W.a2 ?_|refine W.a3 ?_|refine W.bo ?_|refine W.a5 d fun hw d lw kw=>?_|refine W.a6 d ?_|refine W.a7 ?_|refine W.a8 ?_))
  refine W.ite (fun c=>?_) (fun c=>?_)
  ·rw [if_pos c]; exact W.lb rfl rfl (KB.refl _ _)
  rw [if_neg c]
  ((try simp only [n1,n2,n3,n4,n5,n6] at d); (with_reducible repeat first|refine W.a1 d ?_|refine W.a2 ?_|refine W.a3 ?_|refine W.bo ?_|refine W.a5 d fun hw d lw kw=>?_|refine W.a6 d ?_|refine W.a7 ?_|refine W.a8 ?_))
  refine W.bs l1In_run ?_
  ((try simp only [n1,n2,n3,n4,n5,n6] at d); (with_reducible repeat first|refine W.a1 d ?_|refine W.a2 ?_|refine W.a3 ?_|refine W.bo ?_|refine W.a5 d fun hw d lw kw=>?_|refine W.a6 d ?_|refine W.a7 ?_|refine W.a8 ?_))
  refine W.ite (fun c=>?_) (fun c=>?_)
  ·rw [if_pos c]; exact W.lb rfl rfl (KB.refl _ _)
  rw [if_neg c]
  have hx:=(d.rs (i:=0) rfl : RdA base oa ya G aa ats h1∧Sl h1 ra (iv .i64 roots)).1
  refine W.bs (l5Atoms_run (by omega) (fun s hs=>by have:=hz s hs; unfold maxLen at this; omega) hx.2.2.2.2) ?_
  ((try simp only [n1,n2,n3,n4,n5,n6] at d); (with_reducible repeat first|refine W.a1 d ?_|refine W.a2 ?_|refine W.a3 ?_|refine W.bo ?_|refine W.a5 d fun hw d lw kw=>?_|refine W.a6 d ?_|refine W.a7 ?_|refine W.a8 ?_))
  exact W.lb rfl rfl (KB.refl _ _)
 intro h2 d n2
 ((try simp only [n1,n2,n3,n4,n5,n6] at d); (with_reducible repeat first|refine W.a1 d ?_|refine W.a2 ?_|refine W.a3 ?_|refine W.bo ?_|refine W.a5 d fun hw d lw kw=>?_|refine W.a6 d ?_|refine W.a7 ?_|refine W.a8 ?_))
 unfold gOk
 refine W.ite (fun c=>?_) (fun c=>?_)
 ·rw [c]
  exact W.ret ⟨rfl,d.kb⟩
 ·have c : gHead G ats = false:=by simpa using c
  rw [c,Bool.not_false,Bool.true_and]
  refine W.wb (specGensOk_loop (base:=base) (roots:=roots) (A:=fun y=>RdA base oa ya G aa ats y∧Sl y ra (iv .i64 roots)) hG c ha hz hr hrl (fun y hy=>hy) roots.length 0 h2 (by omega) d) ?_
  rintro ⟨o1,o2,h4⟩ ⟨y1,d⟩
  simp only at y1 d
  rw [List.drop_zero] at y1
  cases hc : roots.all (rootOk G ats) with
  | true=>
   rw [hc,if_pos rfl] at y1
   subst y1
   exact W.ifF (show ¬ (2 : Nat) = 1 by decide) (W.ifT rfl (W.ret ⟨rfl,d.kb⟩))
  | false=>
   rw [hc,if_neg (by decide)] at y1
   obtain ⟨y1,y2⟩:=y1
   subst y1; subst y2
   exact W.ifT rfl (W.bB rfl (W.ret ⟨rfl,d.kb⟩))
end Go.Proofs.Ytkdenmdijdmnjaa.Am
