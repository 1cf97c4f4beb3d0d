/- What the functions of this law compute, lemma by lemma, up to the law.
Conditions: none. -/
import Derived.Test.YtkdenmdijdmnjaaP1
import Derived.DataShut
import Derived.IntWalk
import Derived.Laws.BitsLemmas
set_option linter.unusedSimpArgs false
set_option linter.unusedVariables false
namespace Go.Proofs.Ytkdenmdijdmnjaa.Am
open Go Go.RowKit

theorem implBoth_loop {base f pb ab i : Nat} {p : Nat→Prop} {P : Pl} {a b c bb : Option Addr} {A : Ac} {x1 x2 g : Option Addr} {n : Nat} {v : Int} (hM : PlM P) (hA : A.links.length≤9223372036854775807) : ∀ (d j : Nat) (h : AH),j + d = A.links.length→AsR h p f P.acs b→Own base 36 h (at0 pb) (plV a P.code.length b P.acs.length P.next c P.out.length)→Own base 54 h (at0 ab) (acV A.pid A.pc x1 A.regs.length x2 A.box.length g A.links.length)→Sl h g (iv .i64 A.links)→base≤h.length →
  ∃ h',loopL (B26_1 base) [some (.pointer (at0 pb)),some (.pointer (at0 ab)),some (.slice bb n n),some (.int .i64 v),some (.int .i64 (i : Int)),some (.slice g A.links.length A.links.length),some (.int .i64 (A.links.length : Int)),some (.int .i64 (j : Int))] h = some (if anyLk P.acs A.pid (A.links.drop j) = true then (1,[some (.bool false)],h') else (4,[some (.pointer (at0 pb)),some (.slice bb n n),some (.int .i64 v),some (.int .i64 (i : Int))],h'))∧KB NoB h h':=by
 intro d
 induction d with
 | zero=>
  intro j h hi hs oP oA hl hb
  refine ⟨h,?_,KB.refl _ _⟩
  rw [List.drop_eq_nil_of_le (by omega),anyLk,if_neg (by decide)]
  refine loop_off (by decide) ?_
  rw [B26_1_eq]
  refine ifF ?_ rfl
  simp; omega
 | succ d ihd=>
  intro j h hi hs oP oA hl hb
  have hlt : j < A.links.length:=by omega
  obtain ⟨gd,rfl,gl⟩:=int_get hl hlt
  obtain ⟨h2,e2,k2⟩:=at_run (base:=base) (v:=A.links[j]) hM.2.2.1 hs (oP.at0 (i:=1) rfl) hb
  have n2:=k2.1
  rw [List.drop_eq_getElem_cons hlt,anyLk]
  have head : ∀ {r : Option (Nat × Slots × AH)},(if badLk P.acs A.pid A.links[j] = true then some (1,[some (.bool false)],h2) else some (0,[some (.pointer (at0 pb)),some (.pointer (at0 ab)),some (.slice bb n n),some (.int .i64 v),some (.int .i64 (i : Int)),some (.slice (some gd) A.links.length A.links.length),some (.int .i64 (A.links.length : Int)),some (.int .i64 (IntKind.wrap .i64 ((j : Int) + (1 : Int))))],h2)) = r→B26_1 base [some (.pointer (at0 pb)),some (.pointer (at0 ab)),some (.slice bb n n),some (.int .i64 v),some (.int .i64 (i : Int)),some (.slice (some gd) A.links.length A.links.length),some (.int .i64 (A.links.length : Int)),some (.int .i64 (j : Int))] h = r:=by
   intro r hr
   rw [B26_1_eq]
   refine ifT (decide_eq_true (by omega)) (ifT ⟨by omega,by omega⟩ (bs rfl ?_))
   simp only [Int.toNat_natCast]
   refine bI gl (bs e2 (bI rfl ?_))
   refine bj (q:=([some (.pointer (at0 pb)),some (.pointer (at0 ab)),some (.slice bb n n),some (.int .i64 v),some (.int .i64 (i : Int)),some (.slice (some gd) A.links.length A.links.length),some (.int .i64 (A.links.length : Int)),some (.int .i64 (j : Int)),some (.bool (badLk P.acs A.pid A.links[j]))],h2)) ?_ (bs rfl (bs rfl (bS rfl (bI rfl (bI rfl (bS rfl (bI rfl (bI rfl (bB rfl hr)))))))))
   unfold badLk
   by_cases cc : atL A.links[j] 0 P.acs ≥ 0
   ·rw [decide_eq_true cc,if_pos rfl,if_pos rfl]
    have hlt2 : atL A.links[j] 0 P.acs < (P.acs.length : Int):=by
     rcases atL_lt A.links[j] P.acs 0 with h|⟨_,h⟩ <;> omega
    have hn : (atL A.links[j] 0 P.acs).toNat < P.acs.length:=by omega
    obtain ⟨ad,u1,u2,u3,rfl,_,y0,y1,y2,y3,y4,_,ym⟩:=(hs.keepN k2).get hn
    have eh:=hasInt_run (base:=base) (v:=A.pid) (h:=h2) (by have:=(hM.2.2.2.1 _ (List.getElem_mem hn)).2.2; omega) ym
    rw [aD hn]
    exact bS ((oP.keepN k2).at0 (i:=1) rfl) (ifT ⟨cc,hlt2⟩ (bs rfl (bS y4 (bI ((oA.keepN k2).at0 (i:=0) rfl) (bs eh (bB rfl rfl))))))
   ·rw [decide_eq_false cc,if_neg (by decide),if_neg (by decide)]
  cases cb : badLk P.acs A.pid A.links[j] with
  | true=>
   refine ⟨h2,?_,k2⟩
   rw [Bool.true_or,if_pos rfl]
   exact loop_off (by decide) (head (by rw [cb]; exact ifT rfl rfl))
  | false=>
   rw [Bool.false_or]
   obtain ⟨h4,y1,y2⟩:=ihd (j + 1) h2 (by omega) (hs.keepN k2) (oP.keepN k2) (oA.keepN k2) (hl.keepN k2) (by omega)
   refine ⟨h4,loop_on (head ?_) y1,kN k2 y2⟩
   rw [cb,w64i (n:=(j : Int) + 1) (by omega) (by omega)]
   exact ifF (by decide) rfl
theorem implPlainOk_loop {base f pb : Nat} {p : Nat→Prop} {P : Pl} {a b c : Option Addr} (hM : PlM P) : ∀ (d i : Nat) (h : AH),i + d = P.acs.length→AsR h p f P.acs b→Own base 36 h (at0 pb) (plV a P.code.length b P.acs.length P.next c P.out.length)→Sl h a (insR P.code)→base≤h.length →
  ∃ h',loopL (B26_0 base) [some (.pointer (at0 pb)),some (.slice b P.acs.length P.acs.length),some (.int .i64 (P.acs.length : Int)),some (.int .i64 (i : Int))] h = some (if anyA f P d i = true then (1,[some (.bool false)],h') else (2,[],h'))∧KB NoB h h':=by
 intro d
 have l1:=hM.1
 have l3:=hM.2.2.1
 induction d with
 | zero=>
  intro i h hi hs oP hc hb
  refine ⟨h,?_,KB.refl _ _⟩
  rw [anyA,if_neg (by decide)]
  refine loop_off (by decide) ?_
  rw [B26_0_eq]
  refine ifF ?_ rfl
  simp; omega
 | succ d ihd=>
  intro i h hi hs oP hc hb
  have hlt : i < P.acs.length:=by omega
  obtain ⟨ad,x1,x2,x3,rfl,_,g0,g1,g2,g3,g4,hm,hl⟩:=hs.get hlt
  obtain ⟨o1,k1,q1⟩:=box_own (base:=base) (t:=54) (h:=h) (cs:=acV P.acs[i].pid P.acs[i].pc x1 P.acs[i].regs.length x2 P.acs[i].box.length x3 P.acs[i].links.length) hb rfl
  generalize hh1 : h++[some (⟨acV P.acs[i].pid P.acs[i].pc x1 P.acs[i].regs.length x2 P.acs[i].box.length x3 P.acs[i].links.length,54⟩ : Blk)] = h1 at o1 k1 q1
  obtain ⟨h2,e2,k2⟩:=implActorOk_run (base:=base) hM.2.1 l1 (hc.keepN k1) (hM.2.2.2.1 _ (List.getElem_mem hlt)) (hm.keep k1 fun _ _ h=>h) (by omega)
  have n2:=k2.1
  have k02:=kN k1 k2
  have oP1:=oP.keepN k1
  have oP2:=oP1.keepN k2
  have o2:=o1.keepN k2
  obtain ⟨h3,e3,k3⟩:=implBoth_loop (base:=base) (i:=i) (bb:=some ad) (n:=P.acs.length) (v:=(P.acs.length : Int)) hM (hM.2.2.2.1 _ (List.getElem_mem hlt)).2.2 P.acs[i].links.length 0 h2 (by omega) (hs.keepN k02) oP2 o2 (hl.keepN k02) (by omega)
  rw [List.drop_zero,show ((0 : Nat) : Int) = 0 from rfl] at e3
  have n3:=k3.1
  have mid : ∀ {r : Option (Nat × Slots × AH)},(if preA f P i = true then some (1,[some (.bool false)],h2) else
    (loopL (B26_1 base) [some (.pointer (at0 pb)),some (.pointer (at0 h.length)),some (.slice (some ad) P.acs.length P.acs.length),some (.int .i64 (P.acs.length : Int)),some (.int .i64 (i : Int)),some (.slice x3 P.acs[i].links.length P.acs[i].links.length),some (.int .i64 (P.acs[i].links.length : Int)),some (.int .i64 (0 : Int))] h2).bind fun q31=>
    (if q31.1 = 1 then ((sget q31.2.1 0).bind getB).bind fun b32=>some (1,[some (.bool b32)],q31.2.2)
    else (if q31.1 = 4 then ((sget q31.2.1 0).bind getA).bind fun d33=>((sget (q31.2.1.tail) 0).bind getS).bind fun l34=>((sget (q31.2.1.tail.tail) 0).bind (getI .i64)).bind fun n35=>((sget (q31.2.1.tail.tail.tail) 0).bind (getI .i64)).bind fun n36=>some (0,[some (.pointer (some d33)),some (.slice l34.1 l34.2 l34.2),some (.int .i64 n35),some (.int .i64 (IntKind.wrap .i64 (n36 + (1 : Int))))],q31.2.2) else none))) = r →
    B26_0 base [some (.pointer (at0 pb)),some (.slice (some ad) P.acs.length P.acs.length),some (.int .i64 (P.acs.length : Int)),some (.int .i64 (i : Int))] h = r:=by
   intro r hr
   rw [B26_0_eq]
   refine ifT (decide_eq_true (by omega)) (ifT ⟨by omega,by omega⟩ (bs rfl ?_))
   simp only [Int.toNat_natCast]
   refine bI g0 (bI g1 (bS g2 (bS g3 (bS g4 (nw hb rfl fun y ey=>?_)))))
   rw [hh1] at ey
   rw [ey]
   refine bj (q:=([some (.pointer (at0 pb)),some (.pointer (at0 h.length)),some (.slice (some ad) P.acs.length P.acs.length),some (.int .i64 (P.acs.length : Int)),some (.int .i64 (i : Int)),some (.bool (preA f P i))],h2)) ?_ (bs rfl (bs rfl (bS rfl (bI rfl (bI rfl (bB rfl ?_))))))
   ·refine bS (oP1.at0 (i:=0) rfl) (bI (o1.at0 (i:=0) rfl) (bI (o1.at0 (i:=1) rfl) (bS (o1.at0 (i:=2) rfl) (bS (o1.at0 (i:=3) rfl) (bS (o1.at0 (i:=4) rfl) (bs e2 (bB rfl ?_)))))))
    unfold preA
    rw [aD hlt]
    by_cases c1 : (!acOk f P.code P.acs[i]) = true
    ·rw [if_pos c1,if_pos c1]
    rw [if_neg c1,if_neg c1]
    refine bI (o2.at0 (i:=0) rfl) (bI (oP2.at0 (i:=2) rfl) ?_)
    by_cases c2 : decide (P.acs[i].pid ≥ P.next) = true
    ·rw [if_pos c2,if_pos c2]
    rw [if_neg c2,if_neg c2]
    by_cases c3 : (i : Int) > 0
    ·have hw : IntKind.wrap .i64 ((i : Int) - (1 : Int)) = ((i - 1 : Nat) : Int):=by rw [w64i (by omega) (by omega)]; omega
     have hp1 : i - 1 < P.acs.length:=by omega
     obtain ⟨ad2,u1,u2,u3,ee,_,y0,_,_,_,_,_,_⟩:=(hs.keepN k02).get hp1
     injection ee with ee
     subst ee
     rw [aD hp1,decide_eq_true c3,hw,if_pos rfl,if_pos rfl]
     refine bS (oP2.at0 (i:=1) rfl) (ifT ⟨by omega,by omega⟩ (bs rfl ?_))
     simp only [Int.toNat_natCast]
     exact bI y0 (bI (o2.at0 (i:=0) rfl) rfl)
    ·rw [decide_eq_false c3,if_neg (by decide),if_neg (by decide)]
   ·try dsimp only
    by_cases cp : preA f P i = true
    ·rw [if_pos cp] at hr ⊢
     exact hr
    ·rw [if_neg cp] at hr ⊢
     exact bS (o2.at0 (i:=4) rfl) hr
  rw [anyA]
  unfold badA
  rw [aD hlt]
  by_cases cp : preA f P i = true
  ·refine ⟨h2,?_,k02⟩
   rw [if_pos cp,Bool.true_or,if_pos rfl]
   exact loop_off (by decide) (mid (ifT cp rfl))
  rw [if_neg cp]
  cases cb : anyLk P.acs P.acs[i].pid P.acs[i].links with
  | true=>
   rw [cb,if_pos rfl] at e3
   refine ⟨h3,?_,kN k02 k3⟩
   rw [Bool.true_or,if_pos rfl]
   exact loop_off (by decide) (mid (ifF cp (bs e3 (ifT rfl (bB rfl rfl)))))
  | false=>
   rw [cb,if_neg (by decide)] at e3
   rw [Bool.false_or]
   have k03:=kN k02 k3
   obtain ⟨h4,y1,y2⟩:=ihd (i + 1) h3 (by omega) (hs.keepN k03) (oP.keepN k03) (hc.keepN k03) (by omega)
   refine ⟨h4,loop_on (mid (ifF cp (bs e3 (ifF (show ¬ (4 : Nat) = 1 by decide) (ifT rfl (bs rfl (bS rfl (bI rfl (bI rfl ?_))))))))) y1,kN k03 y2⟩
   rw [w64i (n:=(i : Int) + 1) (by omega) (by omega)]
   rfl
theorem implPlainOk_run {base f : Nat} {h : AH} {p : Nat→Prop} {P : Pl} {cs : List Value} (hM : PlM P) (x : PlR h p f P cs) (hb : base≤h.length) :
  ∃ h',run (Et base) 26 [.agg cs.toArray] h = some (.bool (plOk f P),h')∧KB NoB h h':=by
 obtain ⟨a,b,c,rfl,hc,_,hs,ho⟩:=x
 obtain ⟨o1,k1,q1⟩:=box_own (base:=base) (t:=36) (h:=h) (cs:=plV a P.code.length b P.acs.length P.next c P.out.length) hb rfl
 generalize hh1 : h++[some (⟨plV a P.code.length b P.acs.length P.next c P.out.length,36⟩ : Blk)] = h1 at o1 k1 q1
 obtain ⟨h2,e2,k2⟩:=implCodeOk_run (base:=base) hM.2.1 hM.1 (hc.keepN k1) (by omega)
 have n2:=k2.1
 have k02:=kN k1 k2
 have o2:=o1.keepN k2
 have eI:=in_run (base:=base) (h:=h2) (x:=P.next) (a:=1) (b:=90000)
 obtain ⟨h3,e3,k3⟩:=outOk_run (base:=base) hM.2.2.2.2 (ho.keep k02 fun _ _ h=>h) (by omega)
 have n3:=k3.1
 have k03:=kN k02 k3
 have o3:=o2.keepN k3
 obtain ⟨h4,e4,k4⟩:=implPlainOk_loop (base:=base) (pb:=h.length) hM P.acs.length 0 h3 (by omega) (hs.keepN k03) o3 (hc.keepN k03) (by omega)
 rw [show ((0 : Nat) : Int) = 0 from rfl] at e4
 unfold plOk
 have fin : ∀ (q : Bool) (hz : AH) {r : Value × AH},(hq : (if (!codeOk P.code) = true then some (Sum.inl (([some (.pointer (at0 h.length)),some (.bool true)],h2))) else if decide ((P.acs.length : Int) > 20) = true then some (Sum.inl (([some (.pointer (at0 h.length)),some (.bool true)],h2))) else if (!inB P.next 1 90000) = true then some (Sum.inl (([some (.pointer (at0 h.length)),some (.bool true)],h2))) else some (Sum.inl (([some (.pointer (at0 h.length)),some (.bool (!saidOk f P.out))],h3)))) = some (Sum.inl (([some (.pointer (at0 h.length)),some (.bool q)],hz)) : Sum (Slots × AH) (Value × AH))) →
   (if q = true then some ((.bool false),hz) else ((cell hz h.length 1).bind getS).bind fun l15=>(loopL (B26_0 base) [some (.pointer (at0 h.length)),some (.slice l15.1 l15.2 l15.2),some (.int .i64 ((l15.2 : Nat) : Int)),some (.int .i64 (0 : Int))] hz).bind fun q15=>(if q15.1 = 1 then ((sget q15.2.1 0).bind getB).bind fun b16=>some ((.bool b16),q15.2.2) else (if q15.1 = 2 then some ((.bool true),q15.2.2) else none))) = some r→run (Et base) 26 [.agg (plV a P.code.length b P.acs.length P.next c P.out.length).toArray] h = some r:=by
  intro q hz r hq hr
  refine Am.r26 (lets fun y ey=>?_)
  rw [hh1] at ey
  rw [ey]
  refine bj (q:=([some (.pointer (at0 h.length)),some (.bool q)],hz)) ?_ (bs rfl (bB rfl hr))
  rw [← hq]
  refine bS (o1.at0 (i:=0) rfl) (bs e2 (bB rfl ?_))
  by_cases c1 : (!codeOk P.code) = true
  ·rw [if_pos c1,if_pos c1]
  rw [if_neg c1,if_neg c1]
  refine bS (o2.at0 (i:=1) rfl) ?_
  by_cases c3 : decide ((P.acs.length : Int) > 20) = true
  ·rw [if_pos c3,if_pos c3]
  rw [if_neg c3,if_neg c3]
  refine bI (o2.at0 (i:=2) rfl) (bs eI (bB rfl ?_))
  by_cases c2 : (!inB P.next 1 90000) = true
  ·rw [if_pos c2,if_pos c2]
  rw [if_neg c2,if_neg c2]
  exact bS (o2.at0 (i:=3) rfl) (bs e3 (bB rfl rfl))
 by_cases c1 : codeOk P.code = true
 ·rw [c1,Bool.true_and]
  by_cases c3 : (P.acs.length : Int) > 20
  ·refine ⟨h2,fin true h2 (by rw [c1]; simp [c3]) ?_,k02⟩
   simp [c3]
  by_cases c2 : inB P.next 1 90000 = true
  ·rw [c2,Bool.true_and,decide_eq_true c3,Bool.true_and]
   by_cases c4 : saidOk f P.out = true
   ·rw [c4,Bool.true_and]
    refine ⟨h4,fin false h3 (by rw [c1,c2,c4]; simp [c3]) (ifF (by decide) (bS (o3.at0 (i:=1) rfl) (bs e4 ?_))),kN k03 k4⟩
    cases anyA f P P.acs.length 0 with
    | true=>exact ifT rfl (bB rfl rfl)
    | false=>exact ifF (show ¬ (2 : Nat) = 1 by decide) (ifT rfl rfl)
   ·refine ⟨h3,fin true h3 (by rw [c1,c2]; simp [c3,c4]) ?_,k03⟩
    simp [c4]
  ·refine ⟨h2,fin true h2 (by rw [c1]; simp [c2,c3]) ?_,k02⟩
   simp [c2]
 ·refine ⟨h2,fin true h2 (by simp [c1]) ?_,k02⟩
  simp [c1]
abbrev tm0 : Tm:=.mk 1 0 ⟨#[]⟩ []
theorem tm0D {base f : Nat} {S : Fp} {h : AH} : TmG base (f + 1) S h tm0 (termV 1 0 ⟨#[]⟩ none 0):=⟨by decide,by decide,none,rfl,RowO.nil⟩
def newOk (f : Nat) (pid pc : Int) (t : Tm) : Bool:=inB pid 1 99999 && (!decide (pc < 0) && tOk f t)
def newRegs (t : Tm) : Nat→List Tm
 | 0=>[t]
 | n + 1=>newRegs t n++[tm0]
theorem newRegs_len (t : Tm) : ∀ n,(newRegs t n).length = n + 1
 | 0=>rfl
 | n + 1=>by simp [newRegs,newRegs_len t n]
def newA (f : Nat) (pid pc : Int) (t : Tm) : Ac:=if newOk f pid pc t = true then ⟨pid,pc,newRegs t 7,[],[]⟩ else ⟨0,0,[],[],[]⟩
theorem specNew_loop {base f b0 b1 : Nat} {t : Tm} {pid pc : Int} {lo : Nat} (hlo : base≤lo) (h1 : lo≤b1) : ∀ (d i : Nat) (h : AH) (ao : Option Addr) (vs : List Value) (T : Fp),i + d = 7→b1 < h.length→Own base 54 h (at0 b1) (acV pid pc ao (i + 1) none 0 none 0)→Own base 42 h ao vs→vs.length = (i + 1) * 4→Chunks 4 (TmG base (f + 1)) T h (newRegs t i) vs→(∀ b,T b→lo≤b∧b < h.length∧b≠b1)→(∀ b,blk ao b→¬ T b∧lo≤b∧b≠b1) →
  ∃ h' ao' vs' T',loopL (B167_0 base) [some (.pointer (at0 b0)),some (.pointer (at0 b1)),some (.int .i64 ((i + 1 : Nat) : Int))] h = some (2,[some (.pointer (at0 b0)),some (.pointer (at0 b1))],h')∧Own base 54 h' (at0 b1) (acV pid pc ao' 8 none 0 none 0)∧Own base 42 h' ao' vs'∧vs'.length = 8 * 4∧Chunks 4 (TmG base (f + 1)) T' h' (newRegs t 7) vs' ∧
   (∀ b,T' b→lo≤b∧b < h'.length∧b≠b1)∧(∀ b,blk ao' b→¬ T' b∧lo≤b∧b≠b1)∧KB (fun b=>lo≤b∧(b = b1∨blk ao b∨h.length≤b)) h h':=by
 intro d
 induction d with
 | zero=>
  intro i h ao vs T hi hb1 oa ow hv hc hT ha
  have hi' : i = 7:=by omega
  subst hi'
  refine ⟨h,ao,vs,T,?_,oa,ow,hv,hc,hT,ha,KB.refl _ _⟩
  refine loop_off (by decide) ?_
  rw [B167_0_eq]
  exact ifF (by decide) rfl
 | succ d ihd=>
  intro i h ao vs T hi hb1 oa ow hv hc hT ha
  obtain ⟨oz,kz,nz⟩:=box_own (base:=base) (t:=42) (h:=h) (cs:=termV 1 0 ⟨#[]⟩ none 0) (by omega) rfl
  generalize hhz : h++[some (⟨termV 1 0 ⟨#[]⟩ none 0,42⟩ : Blk)] = hz at oz kz nz
  have ez : run (Et base) 201 [.int .i64 0] h = some (.agg (termV 1 0 ⟨#[]⟩ none 0).toArray,hz):=by
   refine Am.r201 (nw (by omega) rfl fun y ey=>?_)
   rw [hhz] at ey
   subst ey
   exact q4 oz rfl
  have oaz:=oa.keepN kz
  obtain ⟨a3,h3,e3,o3,k3,b3,n3⟩:=Am.app1 (bytes:=56) (ow.keepN kz) (n:=i + 1) (sz:=4) (cs:=termV 1 0 ⟨#[]⟩ none 0) hv rfl (by decide) rfl (by omega) (by omega) (by omega)
  have oa3:=oaz.keep k3 fun b hb hk=>by rw [blk_at0] at hb; exact (ha b hk).2.2 hb
  obtain ⟨h4,w4,oa4,k4,l4⟩:=oa3.wr0 (i:=2) (new:=[.slice a3 (i + 1 + 1) (i + 1 + 1)]) (by simp) (by simp)
  have hset : setAt (acV pid pc ao (i + 1) none 0 none 0) 2 [.slice a3 (i + 1 + 1) (i + 1 + 1)] = acV pid pc a3 (i + 1 + 1) none 0 none 0:=rfl
  rw [hset] at oa4
  have hao : ∀ b,blk ao b→b < h.length:=fun b hb=>(ow.lt hb).2
  have ch:=(((hc.keep (TmG.kp _ _) kz fun _ _ h=>h).snoc (vs':=vs++termV 1 0 ⟨#[]⟩ none 0) (S':=T) (T:=fun _=>False) (tm0D (f:=f)) (fun _ h=>h.elim) (fun b hb=>hb) (fun _ h=>h.elim) (fun q hq=>chunk_app_other (by rw [newRegs_len] at hq; have:=mul_le' (w:=4) hq; omega)) (by
   rw [newRegs_len]
   exact chunk_app_self rfl hv)).keep (TmG.kp _ _) k3 (fun b hb hk=>(ha b hk).1 hb)).keep (TmG.kp _ _) k4 (fun b hb hk=>(hT b hb).2.2 hk)
  have o4:=o3.keepB k4 fun b hb=>by have:=b3 b hb; omega
  have k04 : KB (fun b=>blk ao b∨b = b1) h h4:=KB.trans (KB.trans kz k3 (fun _ _ h=>h.elim) (fun _ _ h=>h)) k4 (fun _ _ h=>.inl h) (fun _ _ h=>.inr h)
  obtain ⟨h5,a5,vs5,T5,y1,y2,y3,y4,y5,y6,y7,y8⟩:=ihd (i + 1) h4 a3 (vs++termV 1 0 ⟨#[]⟩ none 0) T (by omega) (by omega) oa4 o4 (by simp; omega) ch (fun b hb=>by have:=hT b hb; exact ⟨this.1,by omega,this.2.2⟩) (fun b hb=>by
   have:=b3 b hb
   subst this
   exact ⟨fun hb=>by have:=hT _ hb; omega,by omega,by omega⟩)
  refine ⟨h5,a5,vs5,T5,?_,y2,y3,y4,y5,y6,y7,KB.trans k04 y8 (fun b _ hb=>?_) (fun b hbl hb=>?_)⟩
  ·refine loop_on ?_ y1
   rw [B167_0_eq]
   refine ifT (decide_eq_true (by omega)) (bS (oa.at0 (i:=2) rfl) (bs ez (bs (v:=termV 1 0 ⟨#[]⟩ none 0) rfl (bI rfl (bI rfl (bT rfl (bS rfl ?_)))))))
   rw [gate_pos (same_keep kz (oa.at0 (i:=2) rfl)),gate_pos (by
    intro x hx
    injection hx with hx
    subst hx
    show b1≠hz.length
    omega)]
   refine lets fun y ey=>?_
   subst ey
   refine bs e3 (bS rfl (bs w4 ?_))
   rw [w64i (n:=((i + 1 : Nat) : Int) + 1) (by omega) (by omega)]
   rfl
  ·rcases hb with hb|hb
   ·exact ⟨(ha b hb).2.1,.inr (.inl hb)⟩
   ·exact ⟨by omega,.inl hb⟩
  ·refine ⟨hb.1,?_⟩
   rcases hb.2 with hb|hb|hb
   ·exact .inl hb
   ·have:=b3 b hb; omega
   ·omega
theorem newOk_join {base f b0 b1 F : Nat} (hF : ∀ (h : AH) (p : Nat→Prop) (k n : Int) (s : ByteArray) (a : Option Addr) (m : Nat) (t : Tm),TmR h p f t (termV k n s a m)→base≤h.length→∃ h',run (Et base) F [.agg (termV k n s a m).toArray] h = some (.bool (tOk f t),h')∧KB NoB h h') {h : AH} {p : Nat→Prop} {t : Tm} {pid pc k n : Int} {s : ByteArray} {a : Option Addr} {m : Nat} (hb : base≤h.length) (o : Own base 42 h (at0 b0) (termV k n s a m)) (ht : TmR h p f t (termV k n s a m)) :
  ∃ h',(if (!inB pid 1 99999) = true then
some (.inl ([some (.int .i64 pid),some (.int .i64 pc),some (.pointer (at0 b0)),some (.pointer (at0 b1)),some (.bool true)],h))
else
(if (decide (pc < (0 : Int))) = true then
some (.inl ([some (.int .i64 pid),some (.int .i64 pc),some (.pointer (at0 b0)),some (.pointer (at0 b1)),some (.bool true)],h))
else
((cell h b0 0).bind (getI .i64)).bind fun n6=>
((cell h b0 1).bind (getI .i64)).bind fun n7=>
((cell h b0 2).bind getStr).bind fun s8=>
((cell h b0 3).bind getS).bind fun l9=>
(run (Et base) F [(.agg #[(.int .i64 n6),(.int .i64 n7),(.string s8),(.slice l9.1 l9.2 l9.2)])] h).bind fun r10=>
((some r10.1).bind getB).bind fun b11=>
some (.inl ([some (.int .i64 pid),some (.int .i64 pc),some (.pointer (at0 b0)),some (.pointer (at0 b1)),some (.bool (!b11))],r10.2)))) = some (Sum.inl (([some (.int .i64 pid),some (.int .i64 pc),some (.pointer (at0 b0)),some (.pointer (at0 b1)),some (.bool (!newOk f pid pc t))],h') : Slots × AH) : Sum (Slots × AH) (Value × AH))∧KB NoB h h':=by
 unfold newOk
 cases c1 : inB pid 1 99999 with
 | false=>exact ⟨h,ifT rfl rfl,KB.refl _ _⟩
 | true=>
  cases c2 : decide (pc < 0) with
  | true=>exact ⟨h,ifF (by decide) (ifT rfl rfl),KB.refl _ _⟩
  | false=>
   obtain ⟨h',e,k⟩:=hF h p k n s a m t ht hb
   refine ⟨h',ifF (by decide) (ifF (by decide) (q4 o (bs e (bB rfl ?_)))),k⟩
   simp
theorem newTail {base f : Nat} {h h1 : AH} {t : Tm} {pid pc : Int} {a : Option Addr} {n : Nat} (hb : base≤h.length) (hk : KB NoB h h1) {ad : Option Addr} {vs : List Value} {T : Fp} (hn : n = (newRegs t 7).length) (ow : Own base 42 h1 ad vs) (hv : vs.length = 8 * 4) (hc : Chunks 4 (TmG base (f + 1)) T h1 (newRegs t 7) vs) (hT : ∀ b,T b→h.length≤b∧b < h1.length) (ha : ∀ b,blk ad b→¬ T b∧h.length≤b) :
  AcG base (f + 1) (iS h.length h1.length) h1 ⟨pid,pc,newRegs t 7,[],[]⟩ (acV pid pc ad 8 none 0 none 0):=by
 have hl:=newRegs_len t 7
 refine ⟨ad,none,none,iS h.length h1.length,fun _=>False,fun _=>False,by simp only [hl]; rfl,⟨vs,T,ow,by rw [hl]; exact hv,fun b hb'=>⟨⟨(ha b hb').2,(ow.lt hb').2⟩,(ha b hb').1⟩,fun b hb'=>hT b hb',hc⟩,RowO.nil,.inl ⟨rfl,rfl⟩,fun x hx=>?_,fun _ h=>h,fun _ h=>h.elim,fun _ h=>h.elim,fun _ _ h=>h,fun _ _ h=>h,fun _ _ h=>h⟩
 obtain ⟨_,e,_⟩:=hx
 cases e
def NewRun (base f F : Nat) : Prop:=∀ (h : AH) (p : Nat→Prop) (t : Tm) (cs : List Value) (pid pc : Int),TmR h p (f + 1) t cs→TmB (f + 1) t→base≤h.length→(∀ b,p b→b < h.length) →
  ∃ cs' h',run (Et base) F [.int .i64 pid,.int .i64 pc,.agg cs.toArray] h = some (.agg cs'.toArray,h')∧AcG base (f + 1) (iS h.length h'.length) h' (newA (f + 1) pid pc t) cs'∧KB NoB h h'
theorem zeroD {base f : Nat} {S : Fp} {h : AH} : AcG base f S h ⟨0,0,[],[],[]⟩ (acV 0 0 none 0 none 0 none 0):=by
 refine ⟨none,none,none,fun _=>False,fun _=>False,fun _=>False,rfl,RowO.nil,RowO.nil,.inl ⟨rfl,rfl⟩,fun x hx=>?_,fun _ h=>h.elim,fun _ h=>h.elim,fun _ h=>h.elim,fun _ _ h=>h,fun _ _ h=>h,fun _ _ h=>h⟩
 obtain ⟨_,e,_⟩:=hx
 cases e
theorem specNew_run {base f : Nat} : NewRun base f 167:=by
 intro h p t cs pid pc hm hB hb hp
 obtain ⟨k,n,s,a,m,rfl⟩:=hm.form
 obtain ⟨o1,k1,q1⟩:=box_own (base:=base) (t:=42) (h:=h) (cs:=termV k n s a m) hb rfl
 generalize hh1 : h++[some (⟨termV k n s a m,42⟩ : Blk)] = h1 at o1 k1 q1
 obtain ⟨o2,k2,q2⟩:=box_own (base:=base) (t:=54) (h:=h1) (cs:=acV 0 0 none 0 none 0 none 0) (by omega) rfl
 generalize hh2 : h1++[some (⟨acV 0 0 none 0 none 0 none 0,54⟩ : Blk)] = h2 at o2 k2 q2
 have k02:=kN k1 k2
 obtain ⟨h3,e3,k3⟩:=newOk_join (base:=base) (f:=f + 1) (F:=58) (b1:=h1.length) (pid:=pid) (pc:=pc) (fun h p k n s a m t x y=>specTermOk_run x y) (by omega) (o1.keepN k2) (TmR.keep k02 (fun _ _ h=>h) _ _ _ hm)
 have n3:=k3.1
 have k03:=kN k02 k3
 have o13:=(o1.keepN k2).keepN k3
 have o23:=o2.keepN k3
 cases c : newOk (f + 1) pid pc t with
 | false=>
  rw [c] at e3
  obtain ⟨h4,w4,o4,k4,l4⟩:=o23.wr0 (i:=0) (new:=acV 0 0 none 0 none 0 none 0) (by simp) (by simp)
  have hset : setAt (acV 0 0 none 0 none 0 none 0) 0 (acV 0 0 none 0 none 0 none 0) = acV 0 0 none 0 none 0 none 0:=rfl
  rw [hset] at o4
  refine ⟨acV 0 0 none 0 none 0 none 0,h4,Am.r167 (lets fun y ey=>?_),by unfold newA; rw [c]; exact zeroD,kFresh k03 k4 fun i hi=>by omega⟩
  rw [hh1] at ey
  subst ey
  refine lets fun y ey=>?_
  rw [hh2] at ey
  subst ey
  refine bj _ (bs l1In_run (bB rfl e3)) (bI rfl (bI rfl (bs rfl (bs rfl (bB rfl (ifT rfl (bs w4 (q5 o4 rfl))))))))
 | true=>
  rw [c] at e3
  obtain ⟨cs4,h4,e4,m4,k4⟩:=l1CopyG_run (base:=base) (f + 1) h3 p t _ (TmR.keep k03 (fun _ _ h=>h) _ _ _ hm) hB (by omega) (fun b hb=>by have:=hp b hb; omega)
  obtain ⟨kk,nn,ss,aa,mm,rfl⟩:=m4.form
  have n4:=k4.1
  obtain ⟨o5,k5,q5'⟩:=box_own (base:=base) (t:=42) (h:=h4) (cs:=termV kk nn ss aa mm) (by omega) rfl
  generalize hh5 : h4++[some (⟨termV kk nn ss aa mm,42⟩ : Blk)] = h5 at o5 k5 q5'
  obtain ⟨o6,k6,q6'⟩:=box_own (base:=base) (t:=54) (h:=h5) (cs:=acV pid pc (at0 h4.length) 1 none 0 none 0) (by omega) rfl
  generalize hh6 : h5++[some (⟨acV pid pc (at0 h4.length) 1 none 0 none 0,54⟩ : Blk)] = h6 at o6 k6 q6'
  have ch : Chunks 4 (TmG base (f + 1)) (iS h3.length h4.length) h6 (newRegs t 0) (termV kk nn ss aa mm):=by
   have:=(Chunks.nil (w:=4) (P:=TmG base (f + 1)) (S:=fun _=>False) (h:=h6) (vs:=[])).snoc (S':=iS h3.length h4.length) (vs':=termV kk nn ss aa mm) (((TmG.kp _ _ _ _ _ _ _ _ k5 (fun _ _ h=>h) m4)) |> fun z=>TmG.kp _ _ _ _ _ _ _ _ k6 (fun _ _ h=>h) z) (fun _ _ h=>h) (fun _ h=>h.elim) (fun _ h=>h) (fun i hi=>by simp at hi) rfl
   exact this
  obtain ⟨h7,ao,vs,T,e7,o7,ow7,hv7,hc7,hT7,ha7,k7⟩:=specNew_loop (base:=base) (f:=f) (b0:=h1.length) (b1:=h5.length) (t:=t) (pid:=pid) (pc:=pc) (lo:=h3.length) (by omega) (by omega) 7 0 h6 (at0 h4.length) (termV kk nn ss aa mm) (iS h3.length h4.length) (by omega) (by omega) o6 (o5.keepN k6) rfl ch (fun b hb=>by constructor <;> omega) (fun b hb=>by rw [blk_at0] at hb; subst hb; exact ⟨fun h=>by omega,by omega,by omega⟩)
  have n7:=k7.1
  have o27:=(((o23.keepN k4).keepN k5).keepN k6).keep k7 fun b hb hk=>by rw [blk_at0] at hb; omega
  obtain ⟨h8,w8,o8,k8,l8⟩:=o27.wr0 (i:=0) (new:=acV pid pc ao 8 none 0 none 0) (by simp) (by simp)
  have hset : setAt (acV 0 0 none 0 none 0 none 0) 0 (acV pid pc ao 8 none 0 none 0) = acV pid pc ao 8 none 0 none 0:=rfl
  rw [hset] at o8
  have k06:=kN (kN (kN k03 k4) k5) k6
  have k08 : KB NoB h h8:=kFresh (kFresh k06 k7 fun i hi=>by omega) k8 fun i hi=>by omega
  refine ⟨acV pid pc ao 8 none 0 none 0,h8,Am.r167 (lets fun y ey=>?_),?_,k08⟩
  ·rw [hh1] at ey
   subst ey
   refine lets fun y ey=>?_
   rw [hh2] at ey
   subst ey
   refine bj _ (bs l1In_run (bB rfl e3)) (bI rfl (bI rfl (bs rfl (bs rfl (bB rfl (ifF (by decide) (q4 o13 (bs e4 ?_))))))))
   refine bs (v:=termV kk nn ss aa mm) rfl (bI rfl (bI rfl (bT rfl (bS rfl (lets fun y ey=>?_)))))
   rw [hh5] at ey
   subst ey
   refine nw (by omega) rfl fun y ey=>?_
   rw [hh6] at ey
   subst ey
   refine bs e7 (ifT rfl (bs rfl (bs rfl (q5 o7 (bs w8 (q5 o8 rfl))))))
  ·unfold newA
   rw [c,if_pos rfl]
   exact newTail (a:=none) hb k08 (newRegs_len t 7).symm (ow7.keepB k8 fun b hb=>by have:=(ha7 b hb).2.1; omega) hv7 (hc7.keep (TmG.kp _ _) k8 fun b hb hk=>by have:=hT7 b hb; omega) (fun b hb=>by have:=hT7 b hb; constructor <;> omega) (fun b hb=>⟨(ha7 b hb).1,by have:=(ha7 b hb).2.1; omega⟩)
theorem newA_le {f : Nat} {pid pc : Int} {t : Tm} : (newA f pid pc t).Le:=by
 unfold newA Ac.Le
 split
 ·simp only [newRegs_len,maxLen]; decide
 ·simp only [maxLen]; decide
theorem RowO.snoc {α : Type} {w : Nat} {P : Fp→AH→α→List Value→Prop} (kp : Kp P) {base t bytes : Nat} {S C : Fp} {h : AH} {l : List α} {a : Option Addr} (x : RowO base t w P S h l a) {y : α} {cs : List Value} (hy : P C h y cs) (hc : cs.length = w) (hw : 0 < w) (hlf : cs.all leaf = true) (hC : ∀ b,C b→¬ S b) (hCb : ∀ b,C b→b < h.length) (hSb : ∀ b,S b→b < h.length) (hb : base≤h.length) (h1 : (l.length + 1) * bytes≤140737488355328) (h2 : l.length + 1≤9223372036854775807) :
  ∃ a' h',Am.app base (h++[some ⟨cs,t⟩]) t w bytes a l.length (rawAt (h++[some ⟨cs,t⟩]) (some ⟨h.length,0,none⟩) (1 * w)) 1 = some (.slice a' (l.length + 1) (l.length + 1),h')∧RowO base t w P (fun b=>S b∨C b∨(h.length≤b∧b < h'.length)) h' (l++[y]) a'∧KB (blk a) h h'∧h.length + 1≤h'.length:=by
 obtain ⟨vs,T,x1,x2,x3,x4,x5⟩:=x
 obtain ⟨a',h',e,o,k,d,n⟩:=Am.app1 (bytes:=bytes) x1 x2 hc hw hlf hb h1 h2
 refine ⟨a',h',e,⟨vs++cs,fun b=>T b∨C b,o,by simp [hc,x2,Nat.add_one_mul],fun b hb'=>?_,fun b hb'=>hb'.elim (fun hb'=>.inl (x4 b hb')) fun hb'=>.inr (.inl hb'),?_⟩,k,n⟩
 ·have e:=d b hb'
  have lt:=(o.lt hb').2
  subst e
  refine ⟨.inr (.inr ⟨by omega,lt⟩),fun hh=>?_⟩
  rcases hh with hh|hh
  ·have:=hSb _ (x4 _ hh); omega
  ·have:=hCb _ hh; omega
 ·have c:=x5.snoc (vs':=vs++cs) (S':=fun b=>T b∨C b) hy (fun b hb hb'=>hC b hb (x4 b hb')) (fun b hb=>.inl hb) (fun b hb=>.inr hb) (fun q hq=>chunk_app_other (by have:=mul_le' (w:=w) hq; omega)) (chunk_app_self hc x2)
  refine c.keep kp k fun b hb hk=>?_
  rcases hb with hb|hb
  ·exact (x3 b hk).2 hb
  ·exact hC b hb (x3 b hk).1
def sayL (l : List Sd) (kind pid : Int) (t : Tm) : List Sd:=if decide ((l.length : Int) ≥ (500 : Int)) = true then l else l++[⟨kind,pid,t⟩]
theorem sayL_len {l : List Sd} {kind pid : Int} {t : Tm} : (sayL l kind pid t).length≤l.length + 1:=by
 unfold sayL
 split
 ·omega
 ·simp
def SayR (base f F : Nat) : Prop:=∀ (h : AH) (S : Fp) (l : List Sd) (v : Option Addr) (kind pid : Int) (p : Nat→Prop) (t : Tm) (k n : Int) (s : ByteArray) (a : Option Addr) (m : Nat),RowO base 140 6 (SdD f) S h l v→l.length≤1048576→TmR h p f t (termV k n s a m)→TmB f t→(∀ b,S b→b < h.length)→(∀ b,p b→b < h.length)→base≤h.length →
 ∃ a' h',run (Et base) F [.slice v l.length l.length,.int .i64 kind,.int .i64 pid,.agg (termV k n s a m).toArray] h = some (.slice a' (sayL l kind pid t).length (sayL l kind pid t).length,h')∧RowO base 140 6 (SdD f) (fun b=>S b∨(h.length≤b∧b < h'.length)) h' (sayL l kind pid t) a'∧KB (blk v) h h'∧h.length≤h'.length
theorem say_core {base f : Nat} {h h2 : AH} {S : Fp} {l : List Sd} {v : Option Addr} {kind pid : Int} {t : Tm} {k n : Int} {s : ByteArray} {a : Option Addr} {m : Nat} (r : RowO base 140 6 (SdD f) S h l v) (hl : l.length≤1048576) (hS : ∀ b,S b→b < h.length) (k02 : KB NoB h h2) (ht : TmD f (fun b=>h.length≤b∧b < h2.length) h2 t (termV k n s a m)) (hb : base≤h.length) :
  ∃ a' h',Am.app base (h2++[some ⟨saidV kind pid k n s a m,140⟩]) 140 6 72 v l.length (rawAt (h2++[some ⟨saidV kind pid k n s a m,140⟩]) (some ⟨h2.length,0,none⟩) (1 * 6)) 1 = some (.slice a' (l.length + 1) (l.length + 1),h')∧RowO base 140 6 (SdD f) (fun b=>S b∨(h.length≤b∧b < h'.length)) h' (l++[⟨kind,pid,t⟩]) a'∧KB (blk v) h h'∧h.length≤h'.length:=by
 have n02:=k02.1
 obtain ⟨a',h',e,r',k',n'⟩:=(r.keep (SdD.kp _) k02 fun _ _ h=>h).snoc (SdD.kp _) (bytes:=72) (y:=⟨kind,pid,t⟩) (C:=fun b=>h.length≤b∧b < h2.length) (cs:=saidV kind pid k n s a m) ⟨k,n,s,a,m,rfl,ht⟩ rfl (by decide) rfl (fun b hb hs=>by have:=hS b hs; omega) (fun b hb=>hb.2) (fun b hb=>by have:=hS b hb; omega) (by omega) (by omega) (by omega)
 refine ⟨a',h',e,r'.mono fun b hb=>?_,KB.trans k02 k' (fun _ _ h=>h.elim) (fun _ _ h=>h),by omega⟩
 rcases hb with hb|hb|hb
 ·exact .inl hb
 ·exact .inr (by omega)
 ·exact .inr (by omega)
theorem specSay_run {base f : Nat} : SayR base f 168:=by
 intro h S l v kind pid p t k n s a m r hl hm hB hS hp hb
 suffices w : Wp (run (Et base) 168 [.slice v l.length l.length,.int .i64 kind,.int .i64 pid,.agg (termV k n s a m).toArray] h) fun o=>∃ a',o.1 = .slice a' (sayL l kind pid t).length (sayL l kind pid t).length∧RowO base 140 6 (SdD f) (fun b=>S b∨(h.length≤b∧b < o.2.length)) o.2 (sayL l kind pid t) a'∧KB (blk v) h o.2∧h.length≤o.2.length by
  obtain ⟨⟨u,h'⟩,e,a',rfl,q⟩:=w
  exact ⟨a',h',e,q⟩
 refine W.of (fun r hx=>Am.r168 hx) ?_
 refine W.box hb fun h1 o1 k1 q1=>?_
 unfold sayL
 refine W.ite (fun c=>?_) fun c=>?_
 ·rw [if_pos c]
  exact W.ret ⟨v,rfl,(r.keep (SdD.kp _) k1 fun _ _ h=>h).mono fun b hb=>.inl hb,KB.mono k1 fun _ _ h=>h.elim,by simp only; omega⟩
 ·rw [if_neg c]
  obtain ⟨cs2,h2,e2,t2,k2⟩:=l1Copy_run (base:=base) f h1 p t _ (TmR.keep k1 (fun _ _ h=>h) _ _ _ hm) hB (by omega) (fun b hb=>by have:=hp b hb; omega)
  obtain ⟨k',n',s',a',m',rfl⟩:=t2.form
  have n2:=k2.1
  obtain ⟨a3,h3,e3,r3,k3,n3⟩:=say_core (kind:=kind) (pid:=pid) r hl hS (kN k1 k2) (TmD.mo _ _ _ _ _ _ (fun b hb=>by constructor <;> omega) t2) hb
  refine W.bI (o1.at0 (i:=0) rfl) (W.bI (o1.at0 (i:=1) rfl) (W.bT (o1.at0 (i:=2) rfl) (W.bS (o1.at0 (i:=3) rfl) (W.bs e2 (W.bs (v:=termV k' n' s' a' m') rfl (W.bI rfl (W.bI rfl (W.bT rfl (W.bS rfl (W.bs rfl (W.bs e3 (W.bS rfl (W.ret ⟨a3,?_,r3,k3,n3⟩)))))))))))))
  simp
def newP (F : Nat) (l : List In) (t : Tm) : Pl:=⟨l,[newA F 1 0 t],2,sayL [] 1 1 t⟩
def zeroP : Pl:=⟨[],[],0,[]⟩
def resP (F : Nat) (l : List In) (t : Tm) : Pl:=if plOk F (newP F l t) = true then newP F l t else zeroP
theorem no_blk {b : Nat} : ¬ blk none b:=fun ⟨_,e,_⟩=>by cases e
theorem zeroP_G {base f : Nat} {S : Fp} {h : AH} : PlG base f S h zeroP (plV none 0 none 0 0 none 0):=
 ⟨none,none,none,fun _=>False,fun _=>False,fun _=>False,rfl,.inl ⟨rfl,rfl⟩,fun x hx=>(no_blk hx).elim,RowO.nil,RowO.nil,fun _ h=>h.elim,fun _ h=>h.elim,fun _ h=>h.elim,fun _ h=>h.elim,fun _ h=>h.elim,fun _ h=>h.elim⟩
theorem newP_M {F : Nat} {l : List In} {t : Tm} (hl : l.length≤1048576) (hL : ∀ x∈l,x.s.size≤1048576) : PlM (newP F l t):=by
 have hA : (newA F 1 0 t).Le:=newA_le
 obtain ⟨h1,h2,h3⟩:=hA
 simp only [maxLen] at h1 h2
 refine ⟨by show l.length≤_; omega,fun x hx=>by have:=hL x hx; omega,by simp [newP],fun A hA=>?_,?_⟩
 ·simp only [newP,List.mem_singleton] at hA
  subst hA
  exact ⟨by omega,by omega,by omega⟩
 ·have:=sayL_len (l:=[]) (kind:=1) (pid:=1) (t:=t)
  simp only [newP,List.length_nil] at this ⊢
  omega
def NewPR (base f F : Nat) : Prop:=∀ (h : AH) (l : List In) (c : Option Addr) (p : Nat→Prop) (t : Tm) (cs : List Value),Sl h c (insR l)→l.length≤1048576→(∀ x∈l,x.s.size≤1048576)→TmR h p (f + 1) t cs→TmB (f + 1) t→(∀ b,p b→b < h.length)→base≤h.length →
 ∃ cs' h',run (Et base) F [.slice c l.length l.length,.agg cs.toArray] h = some (.tuple #[.agg cs'.toArray,.bool (plOk (f + 1) (newP (f + 1) l t))],h')∧PlG base (f + 1) (iS h.length h'.length) h' (resP (f + 1) l t) cs'∧KB NoB h h'
theorem insR_leaf : ∀ l : List In,(insR l).all leaf = true
 | []=>rfl
 | x :: r=>by
  rw [insR,List.all_append,insR_leaf r]
  rfl
theorem W.qP {base t n : Nat} {h : AH} {a b g : Option Addr} {x y z : Nat} {v : Int} (o : Own base t h (at0 n) (plV a x b y v g z)) {β : Type} {Q : β→Prop} {f : Option Addr × Nat→Option Addr × Nat→Int→Option Addr × Nat→Option β} (w : Wp (f (a,x) (b,y) v (g,z)) Q) :
  Wp (((Am.cell h n 0).bind getS).bind fun l1=>((Am.cell h n 1).bind getS).bind fun l2=>((Am.cell h n 2).bind (getI .i64)).bind fun n3=>((Am.cell h n 3).bind getS).bind fun l4=>f l1 l2 n3 l4) Q:=
 W.bS (o.at0 (i:=0) rfl) (W.bS (o.at0 (i:=1) rfl) (W.bI (o.at0 (i:=2) rfl) (W.bS (o.at0 (i:=3) rfl) w)))
theorem oneA {base f : Nat} {h h1 : AH} {S : Fp} {A : Ac} {cs : List Value} (x : AcG base f S h A cs) (hS : ∀ b,S b→b < h.length) (hc : cs.length = 5) (o : Own base 54 h1 (at0 h.length) cs) (k : KB NoB h h1) : RowO base 54 5 (AcG base f) (fun b=>S b∨b = h.length) h1 [A] (at0 h.length):=by
 refine ⟨cs,S,o,by simp [hc],fun b hb=>?_,fun b hb=>.inl hb,fun q b=>q = 0∧S b,fun q b hb=>hb.2,fun q j b hq hb hb'=>hq (hb.1.trans hb'.1.symm),fun q y hy=>?_⟩
 ·rw [blk_at0] at hb
  subst hb
  exact ⟨.inr rfl,fun hb=>by have:=hS _ hb; omega⟩
 ·cases q with
  | zero=>
   simp at hy
   subst hy
   have ee : (fun b=>(0 : Nat) = 0∧S b) = S:=by funext b; simp
   show AcG base f (fun b=>(0 : Nat) = 0∧S b) h1 A (chunk 5 0 cs)
   rw [ee,show chunk 5 0 cs = cs from by simp only [chunk,Nat.zero_mul,List.drop_zero]; exact List.take_of_length_le (by omega)]
   exact AcG.kp _ _ _ _ _ _ _ _ k (fun _ _ h=>h) x
  | succ q=>simp at hy
theorem specPlainNew_run {base f : Nat} : NewPR base f 130:=by
 intro h l c p t cs hc hl hL hm hB hp hb
 obtain ⟨k,n,s,a,m,rfl⟩:=hm.form
 suffices w : Wp (run (Et base) 130 [.slice c l.length l.length,.agg (termV k n s a m).toArray] h) fun o=>∃ cs',o.1 = .tuple #[.agg cs'.toArray,.bool (plOk (f + 1) (newP (f + 1) l t))]∧PlG base (f + 1) (iS h.length o.2.length) o.2 (resP (f + 1) l t) cs'∧KB NoB h o.2 by
  obtain ⟨⟨u,h'⟩,e,cs',rfl,q⟩:=w
  exact ⟨cs',h',e,q⟩
 refine W.of (fun r hx=>Am.r130 hx) ?_
 refine W.box hb fun h1 o1 k1 q1=>W.box (base:=base) (by omega) fun h2 oZ k2 q2=>W.box (base:=base) (by omega) fun h2b oE kE qE=>?_
 have k02:=kN (kN k1 k2) kE
 have o1:=(o1.keepN k2).keepN kE
 have oZ:=oZ.keepN kE
 have hraw : rawAt h2b c (l.length * 6) = some (insR l):=by
  have:=(hc.keepN k02).raw (insR_leaf l)
  rw [insR_len] at this
  exact this
 obtain ⟨a3,h3,e3,oC,k3,d3⟩:=Own.app (x:=oE) (n:=0) (m:=l.length) (sz:=6) (bytes:=56) rfl (by decide) hraw (by omega) (by omega) (by omega) (insR_len l)
 have kE3 : KB NoB h2 h3:=kFresh kE k3 fun i hi=>by rw [blk_at0] at hi; omega
 have n3:=kE3.1
 simp only [Nat.zero_add,List.nil_append] at e3 oC
 have b3 : ∀ b,blk a3 b→h2.length≤b:=fun b hb=>by
  rcases d3 with ⟨_,e,_⟩|d3
  ·rw [e,blk_at0] at hb; omega
  ·have:=d3 b hb; omega
 have k03:=kN (kN k1 k2) kE3
 have o1:=o1.keep k3 fun i hi hk=>by rw [blk_at0] at hi hk; omega
 have oZ:=oZ.keep k3 fun i hi hk=>by rw [blk_at0] at hi hk; omega
 refine W.bs e3 (W.bS rfl (W.gt (ne_A (by omega)) (W.gt (same_KB k3 (by omega) (fun hh=>by rw [blk_at0] at hh; omega)) (W.q4 o1 ?_))))
 obtain ⟨cs4,h4,e4,A4,k4⟩:=specNew_run (base:=base) (f:=f) h3 p t _ 1 0 (TmR.keep k03 (fun _ _ h=>h) _ _ _ hm) hB (by omega) (fun b hb=>by have:=hp b hb; omega)
 have n4:=k4.1
 obtain ⟨p4,c4,a4,x4,b4,y4,g4,z4,rfl⟩:=A4.form
 have k04:=kN k03 k4
 have o1:=o1.keepN k4
 refine W.bs e4 (W.bs (v:=acV p4 c4 a4 x4 b4 y4 g4 z4) rfl (W.bI rfl (W.bI rfl (W.bS rfl (W.bS rfl (W.bS rfl (W.box (base:=base) (h:=h4) (by omega) fun h5 o5 k5 q5'=>?_)))))))
 have k05:=kN k04 k5
 refine W.gt (ne_A (by omega)) (W.nw (base:=base) (by omega) rfl fun h6 o6 k6 q6=>?_)
 have o1:=(o1.keepN k5).keepN k6
 have k06:=kN k05 k6
 obtain ⟨a7,h7,e7,r7,k7,n7⟩:=specSay_run (base:=base) (f:=f + 1) h6 (fun _=>False) [] none 1 1 p t k n s a m RowO.nil (by simp) (TmR.keep k06 (fun _ _ h=>h) _ _ _ hm) hB (fun _ h=>h.elim) (fun b hb=>by have:=hp b hb; omega) (by omega)
 have k7 : KB NoB h6 h7:=k7.mono fun i hi hb=>no_blk hb
 refine W.bS (o6.at0 (i:=3) rfl) (W.q4 o1 (W.bs e7 (W.bS rfl (W.wr0 (o6.keepN k7) (by simp) (by simp) fun h8 o8 k8 l8=>W.qP o8 ?_))))
 have l8 : h8.length = h7.length:=l8
 have k8 : KB (· = h5.length) h7 h8:=k8
 have k48 : KB NoB h4 h8:=kFresh (kN (kN k5 k6) k7) k8 fun i hi=>by omega
 have k58 : KB NoB h5 h8:=kFresh (kN k6 k7) k8 fun i hi=>by omega
 have A5:=AcG.kp _ _ _ _ _ _ _ _ k5 (fun _ _ h=>h) A4
 have r6:=(oneA A4 (fun b hb=>by omega) rfl o5 k5).keep (AcG.kp _ _) k58 fun _ _ h=>h
 have k08:=kN k04 k48
 have G7 : PlG base (f + 1) (fun b=>h1.length < b∧b < h8.length) h8 (newP (f + 1) l t) (plV a3 l.length (at0 h4.length) 1 2 a7 (sayL [] 1 1 t).length):=by
  have hb3 : ∀ b,blk a3 b→h2.length≤b∧b < h3.length:=fun b hb=>⟨b3 b hb,(oC.lt hb).2⟩
  refine ⟨a3,at0 h4.length,a7,fun b=>blk a3 b,fun b=>iS h3.length h4.length b∨b = h4.length,iS h6.length h7.length,rfl,(oC.keepN k4).keepN k48,fun b hb=>hb,r6,(r7.keep (SdD.kp _) k8 fun b hb hk=>hb.elim (fun h=>h) fun hb=>by omega).mono fun b hb=>hb.elim (fun h=>h.elim) id,fun b hb=>?_,fun b hb=>?_,fun b hb=>?_,fun b hb hs=>?_,fun b hb hs=>?_,fun b hb hs=>?_⟩
  ·have:=hb3 b hb; omega
  ·rcases hb with hb|hb <;> omega
  ·omega
  ·have:=hb3 b hb; rcases hs with hs|hs <;> omega
  ·have:=hb3 b hb; omega
  ·rcases hb with hb|hb <;> omega
 obtain ⟨h9,e9,k9⟩:=specPlainOk_run (base:=base) (newP_M hl hL) G7.plR (by omega)
 have n9:=k9.1
 have k09:=kN k08 k9
 have oZ9:=((oZ.keepN k4).keepN k48).keepN k9
 refine W.bs e9 (W.bB rfl ?_)
 unfold resP
 refine W.ite (fun d=>?_) fun d=>?_
 ·have d' : plOk (f + 1) (newP (f + 1) l t) = false:=by simpa using d
  rw [d']
  refine W.wr0 oZ9 (by simp) (by simp) fun ha oa ka la=>W.qP oa (W.ret ⟨_,rfl,zeroP_G,kFresh k09 ka fun i hi=>by omega⟩)
 ·have d' : plOk (f + 1) (newP (f + 1) l t) = true:=by simpa using d
  rw [d']
  refine W.qP (o8.keepN k9) (W.wr0 oZ9 (by simp) (by simp) fun ha oa ka la=>W.qP oa (W.ret ⟨_,rfl,?_,kFresh k09 ka fun i hi=>by omega⟩))
  have la : ha.length = h9.length:=la
  rw [if_pos rfl]
  have g:=PlG.kp _ _ _ _ _ _ _ _ ka (fun b hb hk=>by omega) (PlG.kp _ _ _ _ _ _ _ _ k9 (fun _ _ h=>h) G7)
  obtain ⟨a,b,g',S1,S2,S3,e,h1',h2',h3',h4',s1,s2,s3,dd⟩:=g
  exact ⟨a,b,g',S1,S2,S3,e,h1',h2',h3',h4',fun x hx=>by have:=s1 x hx; exact ⟨by omega,by show x < ha.length; omega⟩,fun x hx=>by have:=s2 x hx; exact ⟨by omega,by show x < ha.length; omega⟩,fun x hx=>by have:=s3 x hx; exact ⟨by omega,by show x < ha.length; omega⟩,dd⟩
def sameLs (g : Tm→Tm→Bool) : List Tm→List Tm→Bool
 | t :: r,u :: q=>g t u && sameLs g r q
 | _,_=>true
def sameB : Nat→Tm→Tm→Bool
 | 0,_,_=>true
 | f + 1,.mk k n s l,.mk k' n' s' l'=>if (k != k') = true then false else if (n != n') = true then false else if (!(s.toList == s'.toList)) = true then false else if ((l.length : Int) != (l'.length : Int)) = true then false else sameLs (sameB f) l l'
def SameR (base f F : Nat) : Prop:=∀ (f2 : Nat) (h : AH) (p p2 : Nat→Prop) (t u : Tm) (cs cs2 : List Value),TmR h p f t cs→TmR h p2 f2 u cs2→base≤h.length →
 ∃ h',run (Et base) F [.agg cs.toArray,.agg cs2.toArray] h = some (.bool (sameB f t u),h')∧KB NoB h h'
def TyOk (base : Nat) (h : AH) (a : Option Addr) (t : Nat) : Prop:=∀ ad,a = some ad→ad.block < h.length∧(ad.block < base∨∃ k,hget h ad.block = some k∧k.ty = t)
theorem TyOk.keep {base t : Nat} {S : Nat→Prop} {h h' : AH} {a : Option Addr} (x : TyOk base h a t) (k : KB S h h') (hS : ∀ b,blk a b→¬ S b) : TyOk base h' a t:=fun ad e=>by
 obtain ⟨h1,h2⟩:=x ad e
 refine ⟨Nat.lt_of_lt_of_le h1 k.1,h2.imp id fun ⟨kk,e1,e2⟩=>⟨kk,?_,e2⟩⟩
 rw [k.2 _ h1 (hS _ ⟨ad,e,rfl⟩)]
 exact e1
theorem TyOk.keepN {base t : Nat} {h h' : AH} {a : Option Addr} (x : TyOk base h a t) (k : KB NoB h h') : TyOk base h' a t:=x.keep k fun _ _ h=>h
theorem TyOk.own {base t : Nat} {h : AH} {a : Option Addr} {vs : List Value} (o : Own base t h a vs) : TyOk base h a t:=fun ad e=>by
 rcases o with ⟨e2,_⟩|⟨ad2,k,e1,e2,e3,e4,_⟩
 ·rw [e2] at e; cases e
 ·rw [e1] at e; injection e with e; subst e
  exact ⟨hget_lt e3,.inr ⟨k,e3,e4⟩⟩
theorem TyOk.ok {base t : Nat} {h : AH} {a : Option Addr} (x : TyOk base h a t) (n : Nat) : okTy base h a t n = true:=by
 unfold okTy
 cases a with
 | none=>simp
 | some ad=>
  obtain ⟨_,h2⟩:=x ad rfl
  simp only
  rcases h2 with h2|⟨k,e1,e2⟩
  ·have : Nat.blt ad.block base = true:=by rw [Nat.blt_eq]; exact h2
   rw [this]; simp
  ·rw [e1]
   subst e2
   simp
theorem TyOk.same0 {base t : Nat} {S : Nat→Prop} {h h' : AH} {a : Option Addr} (x : TyOk base h a t) (k : KB S h h') (hS : ∀ b,blk a b→¬ S b) : sameA h h' a 0:=fun ad e=>by
 refine ⟨fun j hj=>absurd hj (Nat.not_lt_zero _),?_⟩
 rw [k.2 _ (x ad e).1 (hS _ ⟨ad,e,rfl⟩)]
theorem TyOk.ne {base t : Nat} {h : AH} {a : Option Addr} (x : TyOk base h a t) {n : Nat} (hn : h.length≤n) : neA a n:=fun ad e=>by
 have:=(x ad e).1
 omega
theorem Sl.part {h : AH} {a : Option Addr} {vs : List Value} (x : Sl h a vs) {n m : Nat} (hnm : n + m≤vs.length) : Sl h (shiftA a n) ((vs.drop n).take m):=by
 rcases x with e|⟨ad,k,e1,e2,e3,e4⟩
 ·subst e; exact .inl (by simp)
 ·subst e1
  refine .inr ⟨_,k,rfl,e2,by simp; omega,fun i v hi=>?_⟩
  have hlt : i < m:=by have:=(List.getElem?_eq_some_iff.1 hi).1; simp at this; omega
  rw [List.getElem?_take_of_lt hlt,List.getElem?_drop] at hi
  simp only [Nat.add_assoc]
  exact e4 _ _ hi
def sb (s : ByteArray) : List Int:=s.data.toList.map fun b=>(b.toNat : Int)
theorem sb_len (s : ByteArray) : (sb s).length = s.size:=by simp [sb]
theorem toList_loop (s : ByteArray) : ∀ (d i : Nat) (r : List UInt8),i + d = s.size→(ByteArray.toList.loop s i r).length = r.length + d
 | 0,i,r,h=>by
  unfold ByteArray.toList.loop
  rw [if_neg (by omega)]
  simp
 | d + 1,i,r,h=>by
  unfold ByteArray.toList.loop
  rw [if_pos (by omega),toList_loop s d (i + 1) _ (by omega)]
  simp only [List.length_cons]
  omega
theorem toList_len (s : ByteArray) : s.toList.length = s.size:=by
 unfold ByteArray.toList
 rw [toList_loop s s.size 0 [] (by omega)]
 simp
theorem specB_size {x : In} {n : Int} (h : specB x n = true) : x.s.size≤12:=by
 unfold specB at h
 simp only [Bool.and_eq_true] at h
 obtain ⟨_,_,_,_,_,h,_⟩:=h
 cases c : x.op == (2 : Int) with
 | true=>
  rw [c,if_pos rfl] at h
  unfold atomOk inB at h
  simp at h
  omega
 | false=>
  rw [c,if_neg (by decide)] at h
  unfold emp at h
  have:=eq_of_beq h
  have h2 : x.s.toList.length = (⟨#[]⟩ : ByteArray).toList.length:=by rw [this]
  rw [toList_len,toList_len] at h2
  have : (⟨#[]⟩ : ByteArray).size = 0:=rfl
  omega
theorem allIns_mem {n : Int} : ∀ {l : List In},allIns n l = true→∀ x∈l,specB x n = true
 | [],_,x,hx=>by cases hx
 | y :: r,h,x,hx=>by
  simp only [allIns,Bool.and_eq_true] at h
  rcases List.mem_cons.1 hx with rfl|hx
  ·exact h.1
  ·exact allIns_mem h.2 x hx
theorem codeOk_spec {l : List In} (h : codeOk l = true) : l.length≤200∧1≤l.length∧∀ x∈l,x.s.size≤12:=by
 unfold codeOk at h
 simp only [Bool.and_eq_true] at h
 obtain ⟨h1,_,h2⟩:=h
 unfold inB at h1
 simp at h1
 exact ⟨by omega,by omega,fun x hx=>specB_size (allIns_mem h2 x hx)⟩
theorem sh_bd {k n : Int} {s : ByteArray} {m : Nat} (h : shB k n s m = true) : s.size≤40∧m≤20:=by
 have e0 : ∀ {t : ByteArray},(t.toList == (⟨#[]⟩ : ByteArray).toList) = true→t.size = 0:=fun {t} e=>by
  have e:=beq_iff_eq.1 e
  have:=toList_len t
  rw [e] at this
  simpa using this.symm
 unfold shB at h
 split at h
 ·simp only [Bool.and_eq_true] at h
  have:=e0 h.1.2
  have:=beq_iff_eq.1 h.2
  omega
 split at h
 ·simp only [Bool.and_eq_true] at h
  have hh:=h.1.2
  unfold atomOk inB at hh
  simp only [Bool.and_eq_true,decide_eq_true_eq] at hh
  have:=beq_iff_eq.1 h.2
  omega
 split at h
 ·simp only [Bool.and_eq_true] at h
  have:=e0 h.1.2
  have:=beq_iff_eq.1 h.2
  omega
 split at h
 ·simp only [Bool.and_eq_true,decide_eq_true_eq] at h
  have:=e0 h.1.2
  omega
 split at h
 ·simp only [Bool.and_eq_true,decide_eq_true_eq] at h
  have:=e0 h.1.2
  omega
 split at h
 ·simp only [Bool.and_eq_true,decide_eq_true_eq] at h
  have:=beq_iff_eq.1 h.2
  omega
 ·cases h
theorem lk_cnt : ∀ (f : Nat) (t : Tm) (deep left : Int),0≤lk f t deep left→TmB f t∧(tcnt f t : Int) + 1 + lk f t deep left≤left
 | 0,_,_,_,h=>by simp only [lk] at h; omega
 | f + 1,.mk k n s l,deep,left,h=>by
  rw [lk] at h ⊢
  split at h
  ·omega
  rename_i hn
  rw [if_neg hn]
  have hsh : shB k n s l.length = true:=by
   cases c : shB k n s l.length with
   | true=>rfl
   | false=>exact absurd (.inr (.inr c)) hn
  obtain ⟨b1,b2⟩:=sh_bd hsh
  have hl : ∀ (r : List Tm) (d x : Int),0≤lkS (lk f) r d x→(∀ t∈r,TmB f t)∧((r.length + sumL (tcnt f) r : Nat) : Int) + lkS (lk f) r d x≤x:=by
   intro r
   induction r with
   | nil=>intro d x hx; exact ⟨fun t ht=>(by cases ht),by simp [sumL,lkS]⟩
   | cons t r ihr=>
    intro d x hx
    rw [lkS] at hx ⊢
    split at hx
    ·rename_i h0
     rw [if_pos h0]
     have h1 : 0≤lk f t d x:=by
      by_cases hc : 0≤lk f t d x
      ·exact hc
      ·rw [lkS_neg _ _ _ _ (by omega)] at hx; omega
     obtain ⟨a1,a2⟩:=lk_cnt f t d x h1
     obtain ⟨c1,c2⟩:=ihr d _ hx
     refine ⟨fun u hu=>?_,by simp only [List.length_cons,sumL]; omega⟩
     rcases List.mem_cons.1 hu with rfl|hu
     ·exact a1
     ·exact c1 u hu
    ·omega
  obtain ⟨c1,c2⟩:=hl l (deep - 1) (left - 1) h
  refine ⟨⟨by omega,by omega,c1⟩,?_⟩
  simp only [tcnt]
  omega
theorem tOk_B {f : Nat} {t : Tm} (h : tOk f t = true) : TmB f t∧tcnt f t≤100:=by
 have h:=of_decide_eq_true h
 obtain ⟨a,b⟩:=lk_cnt f t 6 100 h
 exact ⟨a,by omega⟩
def InB (x : In) : Prop:=(0≤x.a∧x.a≤7)∧(0≤x.b∧(x.op = 11∨x.b≤7))∧(0≤x.c∧x.c≤7)∧(x.op = 4→0≤x.n∧x.b + x.n≤8)∧(x.op = 6→0≤x.n)∧1≤x.op∧x.op≤20
theorem reg_bd {s : ByteArray} {c r : Int} (h : regB s c r = true) : 0≤r∧r≤7:=by
 unfold regB at h
 split at h
 ·have:=beq_iff_eq.1 h; omega
 ·unfold inB at h
  simp only [Bool.and_eq_true,decide_eq_true_eq] at h
  omega
theorem specB_bd {x : In} {n : Int} (h : specB x n = true) : InB x:=by
 unfold specB at h
 simp only [Bool.and_eq_true] at h
 obtain ⟨_,h2,h3,h4,h5,_,h7⟩:=h
 have ha:=reg_bd h3
 have hc:=reg_bd h4
 have hb : 0≤x.b∧(x.op = 11∨x.b≤7):=by
  split at h5
  ·rename_i e
   have e:=beq_iff_eq.1 e
   unfold inB at h5
   simp only [Bool.and_eq_true,decide_eq_true_eq] at h5
   exact ⟨by omega,.inl e⟩
  ·have:=reg_bd h5
   exact ⟨this.1,.inr this.2⟩
 unfold inB at h2
 simp only [Bool.and_eq_true,decide_eq_true_eq] at h2
 refine ⟨ha,hb,hc,fun e=>?_,fun e=>?_,h2.1,h2.2⟩
 ·have hb7 : x.b≤7:=hb.2.resolve_left (by omega)
  unfold numB at h7
  rw [if_neg (by rw [e]; decide),if_pos (by rw [e]; decide)] at h7
  split at h7
  ·rename_i hn
   unfold inB at hn
   simp only [Bool.and_eq_true,decide_eq_true_eq] at hn h7
   rw [w64i (by omega) (by omega)] at h7
   omega
  ·cases h7
 ·unfold numB at h7
  rw [if_neg (by rw [e]; decide),if_neg (by rw [e]; decide),if_pos (by rw [e]; decide)] at h7
  unfold inB at h7
  simp only [Bool.and_eq_true,decide_eq_true_eq] at h7
  omega
theorem codeOk_bd {l : List In} (h : codeOk l = true) : ∀ x∈l,InB x:=by
 unfold codeOk at h
 simp only [Bool.and_eq_true] at h
 exact fun x hx=>specB_bd (allIns_mem h.2.2 x hx)
structure Acd where
 kind : Int
 pid : Int
 pc : Int
 t : Tm
abbrev actV (kind pid pc k n : Int) (s : ByteArray) (a : Option Addr) (m : Nat) : List Value:=[.int .i64 kind,.int .i64 pid,.int .i64 pc,.int .i64 k,.int .i64 n,.string s,.slice a m m]
def Tm.kd : Tm→Int|.mk k _ _ _=>k
def Tm.nm : Tm→Int|.mk _ n _ _=>n
def Tm.ls : Tm→List Tm|.mk _ _ _ l=>l
def tmZ : Tm:=.mk 0 0 ⟨#[]⟩ []
def rg (R : List Tm) (i : Int) : Tm:=R.getD i.toNat tmZ
def actsF (x : In) (R : List Tm) (next : Int) : Acd × Bool:=
 if (x.op == (13 : Int)) = true then (⟨3,(rg R x.a).nm,0,rg R x.b⟩,(rg R x.a).kd == (3 : Int))
 else if (x.op == (16 : Int)) = true then (⟨4,next,x.n,rg R x.b⟩,true)
 else if (x.op == (17 : Int)) = true then (⟨5,0,0,rg R x.a⟩,true)
 else if (x.op == (18 : Int)) = true then (⟨6,(rg R x.a).nm,0,tmZ⟩,(rg R x.a).kd == (3 : Int))
 else if (x.op == (19 : Int)) = true then (⟨7,0,0,rg R x.a⟩,true)
 else (⟨1,0,0,tmZ⟩,true)
def madeF (x : In) (R : List Tm) (pid next : Int) : Option Tm:=
 if (x.op == (1 : Int)) = true then some (.mk 1 x.n ⟨#[]⟩ [])
 else if (x.op == (2 : Int)) = true then some (.mk 2 0 x.s [])
 else if (x.op == (20 : Int)) = true then some (.mk 5 0 ⟨#[]⟩ [])
 else if (x.op == (3 : Int)) = true then some (rg R x.b)
 else if (x.op == (4 : Int)) = true then some (.mk 4 0 ⟨#[]⟩ ((R.drop x.b.toNat).take x.n.toNat))
 else if (x.op == (5 : Int)) = true then (if ((rg R x.c).kd == (5 : Int)) = true then some (.mk 5 0 ⟨#[]⟩ (rg R x.b :: (rg R x.c).ls)) else none)
 else if (x.op == (6 : Int)) = true then (if (if ((rg R x.b).kd != (4 : Int)) = true then true else decide (x.n ≥ ((rg R x.b).ls.length : Int))) = true then none else some ((rg R x.b).ls.getD x.n.toNat tmZ))
 else if (x.op == (7 : Int)) = true then (if (if ((rg R x.b).kd != (5 : Int)) = true then true else (((rg R x.b).ls.length : Int) == (0 : Int))) = true then none else some ((rg R x.b).ls.getD 0 tmZ))
 else if (x.op == (8 : Int)) = true then (if (if ((rg R x.b).kd != (5 : Int)) = true then true else (((rg R x.b).ls.length : Int) == (0 : Int))) = true then none else some (.mk 5 0 ⟨#[]⟩ ((rg R x.b).ls.drop 1)))
 else if (x.op == (9 : Int)) = true then (if ((rg R x.b).kd == (1 : Int)) = true then (if ((rg R x.c).kd == (1 : Int)) = true then some (.mk 1 (IntKind.wrap .i64 ((rg R x.b).nm + (rg R x.c).nm)) ⟨#[]⟩ []) else none) else none)
 else if (x.op == (15 : Int)) = true then some (.mk 3 pid ⟨#[]⟩ [])
 else some (.mk 3 next ⟨#[]⟩ [])
def makesF (op : Int) : Bool:=!(if (op == (10 : Int)) = true then true else if (op == (11 : Int)) = true then true else if (op == (12 : Int)) = true then true else if (op == (13 : Int)) = true then true else if (op == (17 : Int)) = true then true else if (op == (18 : Int)) = true then true else (op == (19 : Int)))
def jumpsF (f : Nat) (x : In) (R : List Tm) : Bool:=if (x.op == (10 : Int)) = true then !sameB f (rg R x.a) (rg R x.b) else if (x.op == (11 : Int)) = true then ((rg R x.a).kd != x.b) else (x.op == (12 : Int))
theorem TsR.part {h : AH} {p : Nat→Prop} {f : Nat} {l : List Tm} {a : Option Addr} (x : TsR h p f l a) {i n : Nat} (hin : i + n≤l.length) : TsR h p f ((l.drop i).take n) (shiftA a (i * 4)):=by
 obtain ⟨vs,h1,h2,h3,h4⟩:=x
 refine ⟨(vs.drop (i * 4)).take (n * 4),h1.part (by omega),?_,?_,fun j t hj=>?_⟩
 ·rcases h2 with e|h2
  ·exact .inl (by rw [e]; simp)
  ·refine .inr fun b hb=>?_
   obtain ⟨ad,e,hb⟩:=hb
   cases a with
   | none=>cases e
   | some a0=>
    injection e with e
    subst e
    exact h2 b ⟨a0,rfl,hb⟩
 ·simp; omega
 ·have hjn : j < n:=by have:=(List.getElem?_eq_some_iff.1 hj).1; simp at this; omega
  rw [List.getElem?_take_of_lt hjn,List.getElem?_drop] at hj
  have:=h4 _ _ hj
  rw [show (((vs.drop (i * 4)).take (n * 4)).drop (j * 4)).take 4 = (vs.drop ((i + j) * 4)).take 4 from ?_]
  ·exact this
  ·apply List.ext_getElem?
   intro q
   by_cases hq : q < 4
   ·rw [List.getElem?_take_of_lt hq,List.getElem?_take_of_lt hq,List.getElem?_drop,List.getElem?_drop,List.getElem?_take_of_lt (by omega),List.getElem?_drop,show i * 4 + (j * 4 + q) = (i + j) * 4 + q from by omega]
   ·rw [List.getElem?_eq_none (by simp; omega),List.getElem?_eq_none (by simp; omega)]
theorem RowO.getG {base t f : Nat} {S : Fp} {h : AH} {l : List Tm} {al : Option Addr} (x : RowO base t 4 (TmG base f) S h l al) {i : Nat} (hi : i < l.length) :
  ∃ ad k n s a2 m C,al = some ad∧ad.block < h.length∧Am.cell h ad.block (ad.off + i * 4) = some (.int .i64 k)∧Am.cell h ad.block (ad.off + i * 4 + 1) = some (.int .i64 n)∧Am.cell h ad.block (ad.off + i * 4 + 1 + 1) = some (.string s)∧Am.cell h ad.block (ad.off + i * 4 + 1 + 1 + 1) = some (.slice a2 m m)∧TmG base f C h l[i] (termV k n s a2 m)∧(∀ b,C b→S b):=by
 obtain ⟨vs,T,x1,x2,x3,x4,C,c1,c2,c3⟩:=x
 have hm:=c3 i _ (List.getElem?_eq_getElem hi)
 obtain ⟨k,n,s,a2,m,e⟩:=hm.form
 rw [e] at hm
 have each : ∀ (j : Nat) (v : Value),(termV k n s a2 m)[j]? = some v→vs[i * 4 + j]? = some v:=by
  intro j v hv
  have hj : j < 4:=by have:=(List.getElem?_eq_some_iff.1 hv).1; simpa using this
  rw [← e] at hv
  unfold chunk at hv
  rw [List.getElem?_take_of_lt hj,List.getElem?_drop] at hv
  exact hv
 have hne : vs≠[]:=by intro e; subst e; simp at x2; omega
 rcases x1 with ⟨_,e2⟩|⟨ad,kk,e1,_,e2,_,_,e4⟩
 ·exact absurd e2 hne
 ·have c : ∀ (j : Nat) (v : Value),(termV k n s a2 m)[j]? = some v→Am.cell h ad.block (ad.off + i * 4 + j) = some v:=by
   intro j v hv
   have:=e4 _ _ (each j v hv)
   rw [Nat.add_assoc]
   simp [Am.cell,e2,this]
  exact ⟨ad,k,n,s,a2,m,C i,e1,hget_lt e2,c 0 _ rfl,c 1 _ rfl,c 2 _ rfl,c 3 _ rfl,hm,fun b hb=>x4 b (c1 i b hb)⟩
theorem RowO.tyOk {α : Type} {w base t : Nat} {P : Fp→AH→α→List Value→Prop} {S : Fp} {h : AH} {l : List α} {a : Option Addr} (x : RowO base t w P S h l a) (n : Nat) : okTy base h a t n = true:=by
 obtain ⟨vs,T,x1,_⟩:=x
 exact (TyOk.own x1).ok n
theorem rg_eq {R : List Tm} {i : Int} (h0 : 0≤i) (h1 : i.toNat < R.length) : rg R i = R[i.toNat]:=by
 unfold rg
 simp [h1]
theorem tmZ_G {base f : Nat} {S : Fp} {h : AH} : TmG base (f + 1) S h tmZ (termV 0 0 ⟨#[]⟩ none 0):=⟨by decide,by decide,none,rfl,RowO.nil⟩
def flt : ByteArray:=⟨#[102,97,117,108,116]⟩
theorem TmG.parts {base f : Nat} {S : Fp} {h : AH} {t : Tm} {k n : Int} {s : ByteArray} {a : Option Addr} {m : Nat} (x : TmG base (f + 1) S h t (termV k n s a m)) : ∃ l,t = .mk k n s l∧m = l.length∧s.size≤maxLen∧l.length≤maxLen∧RowO base 42 4 (TmG base f) S h l a:=by
 obtain ⟨k',n',s',l⟩:=t
 obtain ⟨h1,h2,a',ecs,r⟩:=x
 injection ecs with q0 ecs
 injection ecs with q1 ecs
 injection ecs with q2 ecs
 injection ecs with q3 _
 injection q0 with _ q0; injection q1 with _ q1; injection q2 with q2; injection q3 with q3 q4 _
 subst q0; subst q1; subst q2; subst q3
 exact ⟨l,rfl,q4,h1,h2,r⟩
section
section
variable {α : Type} {w : Nat} {P : Fp→AH→α→List Value→Prop}
theorem RowO.imp {Q : Fp→AH→α→List Value→Prop} {base t : Nat} {S : Fp} {h : AH} {l : List α} {a : Option Addr} (hPQ : ∀ S h x cs,P S h x cs→Q S h x cs) (x : RowO base t w P S h l a) : RowO base t w Q S h l a:=by
 obtain ⟨vs,T,x1,x2,x3,x4,x5⟩:=x
 exact ⟨vs,T,x1,x2,x3,x4,x5.imp hPQ⟩
theorem Own.wrA {base t : Nat} {h : AH} {a : Option Addr} {vs : List Value} (x : Own base t h a vs) {i : Nat} {new : List Value} (hi : i + new.length≤vs.length) (h0 : 0 < new.length) :
  ∃ ad h',a = some ad∧Am.wr base h ad.block (ad.off + i) new = some h'∧Own base t h' a (setAt vs i new)∧KB (blk a) h h'∧h'.length = h.length:=by
 obtain ⟨ad,h',e,h1,h2,h3,h4⟩:=x.wr hi h0
 exact ⟨ad,h',e,h1,h2,h3,h4⟩
theorem RowO.put (kp : Kp P) {base t : Nat} {S C : Fp} {h : AH} {l : List α} {a : Option Addr} (x : RowO base t w P S h l a) {i : Nat} (hi : i < l.length) {y : α} {cs : List Value} (hy : P C h y cs) (hc : cs.length = w) (hw : 0 < w) (hC : ∀ b,C b→¬ S b) :
  ∃ ad h',a = some ad∧Am.wr base h ad.block (ad.off + i * w) cs = some h'∧RowO base t w P (fun b=>S b∨C b) h' (l.set i y) a∧KB (blk a) h h'∧h'.length = h.length:=by
 obtain ⟨vs,T,x1,x2,x3,x4,C0,c1,c2,c3⟩:=x
 have hle:=mul_le' (w:=w) hi
 obtain ⟨ad,h',e,w1,w2,w3,w4⟩:=x1.wrA (i:=i * w) (new:=cs) (by omega) (by omega)
 refine ⟨ad,h',e,w1,⟨setAt vs (i * w) cs,fun b=>T b∨C b,w2,by simp [setAt]; omega,fun b hb=>⟨.inl (x3 b hb).1,fun hh=>?_⟩,fun b hb=>hb.imp (x4 b) id,fun q b=>if q = i then C b else C0 q b,fun q b hb=>?_,fun q j b hq hb hb'=>?_,fun q z hz=>?_⟩,w3,w4⟩
 ·rcases hh with hh|hh
  ·exact (x3 b hb).2 hh
  ·exact hC b hh (x3 b hb).1
 ·simp only at hb
  split at hb
  ·exact .inr hb
  ·exact .inl (c1 q b hb)
 ·simp only at hb hb'
  split at hb
  ·split at hb'
   ·omega
   ·exact hC b hb (x4 b (c1 j b hb'))
  ·split at hb'
   ·exact hC b hb' (x4 b (c1 q b hb))
   ·exact c2 q j b hq hb hb'
 ·by_cases eq : q = i
  ·subst eq
   rw [List.getElem?_set_self hi] at hz
   injection hz with hz
   subst hz
   have ee : (fun b=>if q = q then C b else C0 q b) = C:=by funext b; simp
   show P (fun b=>if q = q then C b else C0 q b) h' y (chunk w q (setAt vs (q * w) cs))
   rw [ee,chunk_setAt_self hc (by omega)]
   exact kp _ _ _ _ _ _ w3 (fun b hb hk=>hC b hb (x3 b hk).1) hy
  ·rw [List.getElem?_set_ne (by omega)] at hz
   have ee : (fun b=>if q = i then C b else C0 q b) = C0 q:=by funext b; simp [eq]
   show P (fun b=>if q = i then C b else C0 q b) h' z (chunk w q (setAt vs (i * w) cs))
   rw [ee,chunk_setAt_other hc (by omega) eq]
   exact kp _ _ _ _ _ _ w3 (fun b hb hk=>(x3 b hk).2 (c1 q b hb)) (c3 q z hz)
theorem RowO.uncons (kp : Mo P) {base t : Nat} {S : Fp} {h : AH} {x : α} {l : List α} {a : Option Addr} (r : RowO base t w P S h (x :: l) a) (hw : 0 < w) :
  ∃ C cs ad,P C h x cs∧a = some ad∧(∀ j v,cs[j]? = some v→Am.cell h ad.block (ad.off + j) = some v)∧(∀ b,C b→S b)∧(∀ b,blk a b→¬ C b)∧RowO base t w P (fun b=>S b∧¬ C b) h l (shiftA a (1 * w)):=by
 obtain ⟨vs,T,x1,x2,x3,x4,C0,c1,c2,c3⟩:=r
 simp only [List.length_cons] at x2
 have x2 : vs.length = l.length * w + w:=by rw [x2,Nat.add_one_mul]
 rcases x1 with ⟨_,e⟩|⟨ad,k,e1,e2,e3,e4,e5,e6⟩
 ·subst e; simp at x2; omega
 have bs : ∀ b,blk (shiftA a (1 * w)) b→blk a b:=fun b hb=>by
  obtain ⟨ad,e,hb⟩:=hb
  cases a with
  | none=>cases e
  | some a0=>
   injection e with e
   subst e
   exact ⟨a0,rfl,hb⟩
 refine ⟨C0 0,chunk w 0 vs,ad,c3 0 x rfl,e1,fun j v hj=>?_,fun b hb=>x4 b (c1 0 b hb),fun b hb hc=>(x3 b hb).2 (c1 0 b hc),vs.drop w,fun b=>T b∧¬ C0 0 b,?_,by simp [x2],fun b hb=>?_,fun b hb=>⟨x4 b hb.1,hb.2⟩,fun q=>C0 (q + 1),fun q b hb=>⟨c1 _ b hb,fun hh=>c2 _ _ b (by omega) hb hh⟩,fun q j b hq hb=>c2 _ _ b (by omega) hb,fun q z hz=>?_⟩
 ·have hj' : j < w:=by have:=(List.getElem?_eq_some_iff.1 hj).1; simp [chunk] at this; omega
  rw [chunk,List.getElem?_take_of_lt hj',List.getElem?_drop,Nat.zero_mul,Nat.zero_add] at hj
  have:=e6 _ _ hj
  simp [Am.cell,e3,this]
 ·subst e1
  refine .inr ⟨_,k,rfl,e2,e3,e4,by simp [x2]; omega,fun i v hi=>?_⟩
  rw [List.getElem?_drop] at hi
  have:=e6 _ _ hi
  simp only [Nat.one_mul,Nat.add_assoc]
  exact this
 ·have:=x3 b (bs b hb)
  exact ⟨⟨this.1,fun hh=>this.2 (c1 0 b hh)⟩,fun hh=>this.2 hh.1⟩
 ·have:=c3 (q + 1) z (by simpa using hz)
  have e : chunk w q (vs.drop w) = chunk w (q + 1) vs:=by
   simp only [chunk,List.drop_drop]
   congr 2
   rw [Nat.add_one_mul]; omega
  rw [e]
  exact this
end
theorem TmG.le {base : Nat} : ∀ {f f' : Nat} (hf : f≤f') {S : Fp} {h : AH} {t : Tm} {cs : List Value},TmG base f S h t cs→TmG base f' S h t cs
 | 0,_,_,_,_,_,_,x=>x.elim
 | f + 1,0,hf,_,_,_,_,_=>absurd hf (Nat.not_succ_le_zero _)
 | f + 1,f' + 1,hf,S,h,.mk k n s l,cs,x=>by
  obtain ⟨h1,h2,a,e,r⟩:=x
  exact ⟨h1,h2,a,e,r.imp fun _ _ _ _=>TmG.le (Nat.le_of_succ_le_succ hf)⟩
theorem AcG.le {base f f' : Nat} (hf : f≤f') {S : Fp} {h : AH} {A : Ac} {cs : List Value} (x : AcG base f S h A cs) : AcG base f' S h A cs:=by
 obtain ⟨a,b,g,S1,S2,S3,e,h1,h2,h3⟩:=x
 exact ⟨a,b,g,S1,S2,S3,e,h1.imp fun _ _ _ _=>TmG.le hf,h2.imp fun _ _ _ _=>TmG.le hf,h3⟩
theorem AcG.setPc {base f : Nat} {S : Fp} {h : AH} {A : Ac} {cs : List Value} (x : AcG base f S h A cs) (v : Int) : AcG base f S h ⟨A.pid,v,A.regs,A.box,A.links⟩ (setAt cs 1 [.int .i64 v]):=by
 obtain ⟨a,b,g,S1,S2,S3,rfl,h1⟩:=x
 exact ⟨a,b,g,S1,S2,S3,rfl,h1⟩
theorem AcG.setReg {base f : Nat} {S C : Fp} {h : AH} {A : Ac} {cs tcs : List Value} (x : AcG base f S h A cs) {i : Nat} (hi : i < A.regs.length) {t : Tm} (ht : TmG base f C h t tcs) (hC : ∀ b,C b→¬ S b) :
  ∃ ad h',cs[2]? = some (.slice (some ad) A.regs.length A.regs.length)∧Am.wr base h ad.block (ad.off + i * 4) tcs = some h'∧AcG base f (fun b=>S b∨C b) h' ⟨A.pid,A.pc,A.regs.set i t,A.box,A.links⟩ cs∧KB S h h'∧h'.length = h.length:=by
 obtain ⟨a,b,g,S1,S2,S3,rfl,r1,r2,r3,hg,s1,s2,s3,d1,d2,d3⟩:=x
 obtain ⟨k,n,s,a',m,rfl⟩:=ht.form
 have hbA : ∀ b,blk a b→S1 b:=by obtain ⟨vs,T,w1,w2,w3,_⟩:=r1; exact fun b hb=>(w3 b hb).1
 obtain ⟨ad,h',rfl,w1,w2,w3,w4⟩:=r1.put (TmG.kp _ _) hi ht rfl (by decide) fun b hb hs=>hC b hb (s1 b hs)
 refine ⟨ad,h',rfl,w1,⟨some ad,b,g,fun b=>S1 b∨C b,S2,S3,by simp,w2,r2.keep (TmG.kp _ _) w3 fun b hb hk=>d1 b (hbA b hk) hb,r3.keep w3 fun b hb hk=>d2 b (hbA b hk) (hg b hb),hg,fun b hb=>hb.imp (s1 b) id,fun b hb=>.inl (s2 b hb),fun b hb=>.inl (s3 b hb),fun b hb hs=>?_,fun b hb hs=>?_,d3⟩,w3.mono fun b _ hb=>s1 b (hbA b hb),w4⟩
 ·rcases hb with hb|hb
  ·exact d1 b hb hs
  ·exact hC b hb (s2 b hs)
 ·rcases hb with hb|hb
  ·exact d2 b hb hs
  ·exact hC b hb (s3 b hs)
theorem AcG.take {base f : Nat} {S : Fp} {h : AH} {A : Ac} {cs : List Value} (x : AcG base f S h A cs) {i : Nat} (hi : i < A.regs.length) {t : Tm} {B : List Tm} (eB : A.box = t :: B) :
  ∃ a b g k n s a' m h',cs = acV A.pid A.pc (some a) A.regs.length (some b) A.box.length g A.links.length∧Am.cell h b.block b.off = some (.int .i64 k)∧Am.cell h b.block (b.off + 1) = some (.int .i64 n)∧Am.cell h b.block (b.off + 1 + 1) = some (.string s)∧Am.cell h b.block (b.off + 1 + 1 + 1) = some (.slice a' m m) ∧
   Am.wr base h a.block (a.off + i * 4) (termV k n s a' m) = some h'∧(∀ q,okTy base h' (some b) 42 q = true)∧AcG base f S h' ⟨A.pid,A.pc,A.regs.set i t,B,A.links⟩ (acV A.pid A.pc (some a) A.regs.length (shiftA (some b) (1 * 4)) B.length g A.links.length)∧KB S h h'∧h'.length = h.length:=by
 obtain ⟨a,b,g,S1,S2,S3,rfl,r1,r2,r3,hg,s1,s2,s3,d1,d2,d3⟩:=x
 have r2':=r2
 rw [eB] at r2'
 have hb1 : ∀ b,blk a b→S1 b:=by obtain ⟨vs,T,w1,w2,w3,_⟩:=r1; exact fun b hb=>(w3 b hb).1
 have hb2 : ∀ x,blk b x→S2 x:=by obtain ⟨vs,T,w1,w2,w3,_⟩:=r2; exact fun b hb=>(w3 b hb).1
 obtain ⟨C,tcs,bd,hC,rfl,cells,hCS,hCb,rt⟩:=r2'.uncons (TmG.mo _ _) (by decide)
 obtain ⟨k,n,s,a',m,rfl⟩:=hC.form
 obtain ⟨ad,h',rfl,w1,w2,w3,w4⟩:=r1.put (TmG.kp _ _) hi hC rfl (by decide) fun b hb hs=>d1 b hs (hCS b hb)
 have rt':=rt.keep (TmG.kp _ _) w3 fun b hb hk=>d1 b (hb1 b hk) hb.1
 refine ⟨ad,bd,g,k,n,s,a',m,h',rfl,by simpa using cells 0 _ rfl,cells 1 _ rfl,cells 2 _ rfl,cells 3 _ rfl,w1,fun q=>(r2.keep (TmG.kp _ _) w3 fun b hb hk=>d1 b (hb1 b hk) hb).tyOk q,⟨some ad,shiftA (some bd) (1 * 4),g,fun b=>S1 b∨C b,fun b=>S2 b∧¬ C b,S3,by simp,w2,rt',r3.keep w3 fun b hb hk=>d2 b (hb1 b hk) (hg b hb),hg,fun b hb=>hb.elim (s1 b) fun hb=>s2 b (hCS b hb),fun b hb=>s2 b hb.1,s3,fun b hb hs=>?_,fun b hb hs=>?_,fun b hb=>d3 b hb.1⟩,w3.mono fun b _ hb=>s1 b (hb1 b hb),w4⟩
 ·rcases hb with hb|hb
  ·exact d1 b hb hs.1
  ·exact hs.2 hb
 ·rcases hb with hb|hb
  ·exact d2 b hb hs
  ·exact d3 b (hCS b hb) hs
end
theorem mkInt_run {base : Nat} {h : AH} {v : Int} (hb : base≤h.length) : ∃ h',run (Et base) 201 [.int .i64 v] h = some (.agg (termV 1 v ⟨#[]⟩ none 0).toArray,h')∧KB NoB h h':=by
 refine Wp.run (P:=fun h'=>KB NoB h h') ?_
 refine W.of (fun r hx=>Am.r201 hx) ?_
 exact W.nw hb rfl fun h1 o1 k1 q1=>W.q4 o1 (W.ret ⟨rfl,k1⟩)
theorem mkPid_run {base : Nat} {h : AH} {v : Int} (hb : base≤h.length) : ∃ h',run (Et base) 225 [.int .i64 v] h = some (.agg (termV 3 v ⟨#[]⟩ none 0).toArray,h')∧KB NoB h h':=by
 refine Wp.run (P:=fun h'=>KB NoB h h') ?_
 refine W.of (fun r hx=>Am.r225 hx) ?_
 exact W.nw hb rfl fun h1 o1 k1 q1=>W.q4 o1 (W.ret ⟨rfl,k1⟩)
theorem l9CopyTerms_loop {base f : Nat} {p : Nat→Prop} {l : List Tm} {a : Option Addr} {lo : Nat} (hl : l.length≤1048576) (hB : ∀ t∈l,TmB f t) (hp : ∀ b,p b→b < lo) (hlo : base≤lo) : ∀ (d i : Nat) (h : AH) (ao : Option Addr) (S : Fp),i + d = l.length→TsR h p f l a→lo≤h.length→RowO base 42 4 (TmG base f) S h (l.take i) ao→(∀ b,S b→lo≤b∧b < h.length) →
  Wp (loopL (B163_0 base) [some (.slice a l.length l.length),some (.slice ao i i),some (.int .i64 (i : Int))] h) fun o=>∃ a' S',o.1 = 2∧o.2.1 = [some (.slice a' l.length l.length)]∧RowO base 42 4 (TmG base f) S' o.2.2 l a'∧(∀ b,S' b→lo≤b∧b < o.2.2.length)∧KB (fun b=>lo≤b) h o.2.2:=by
 intro d
 induction d with
 | zero=>
  intro i h ao S hi hs hlh r hS
  have hi' : i = l.length:=by omega
  subst hi'
  rw [List.take_of_length_le (Nat.le_refl _)] at r
  refine ⟨_,loop_off (by decide) (s':=[some (.slice ao l.length l.length)]) (h':=h) (e:=2) ?_,ao,S,rfl,rfl,r,hS,KB.refl _ _⟩
  rw [B163_0_eq]
  exact Am.ifF (by simp) rfl
 | succ d ihd=>
  intro i h ao S hi hs hlh r hS
  have hlt : i < l.length:=by omega
  obtain ⟨ad,k,n,s,a2,m,rfl,g0,g1,g2,g3,hm⟩:=hs.getT hlt
  obtain ⟨cs2,h2,e2,t2,k2⟩:=l1CopyG_run (base:=base) f h p _ _ hm (hB _ (List.getElem_mem hlt)) (by omega) (fun b hb=>by have:=hp b hb; omega)
  obtain ⟨k',n',s',a',m',rfl⟩:=t2.form
  have n2:=k2.1
  have elen : (l.take i).length = i:=by simp; omega
  obtain ⟨a3,h3,e3,r3,k3,n3⟩:=(r.keep (TmG.kp _ _) k2 fun _ _ h=>h).app1 (TmG.kp _ _) (bytes:=56) t2 rfl (by decide) rfl (fun b hb hs=>by have:=hS b hs; omega) (fun b hb=>hb.2) (fun b hb=>by have:=hS b hb; omega) (by omega) (by rw [elen]; omega) (by rw [elen]; omega)
  rw [elen] at e3
  rw [← take_snoc hlt] at r3
  have hbo : ∀ b,blk ao b→lo≤b:=by obtain ⟨vs,T,w1,w2,w3,_⟩:=r; exact fun b hb=>(hS b (w3 b hb).1).1
  have k03 : KB (fun b=>lo≤b) h h3:=KB.trans k2 k3 (fun _ _ h=>h.elim) (fun b _ hb=>hbo b hb)
  obtain ⟨o,eo,a4,S4,y1,y2,y3,y4,y5⟩:=ihd (i + 1) h3 a3 _ (by omega) (hs.keep k03 fun b h1 h2=>by have:=hp b h1; omega) (by omega) r3 (fun b hb=>by
   rcases hb with hb|hb|hb
   ·have:=hS b hb; omega
   ·omega
   ·omega)
  refine ⟨o,loop_on ?_ eo,a4,S4,y1,y2,y3,y4,KB.trans k03 y5 (fun _ _ h=>h) (fun _ _ h=>h)⟩
  rw [B163_0_eq]
  refine Am.ifT (decide_eq_true (by omega)) (Am.ifT ⟨by omega,by omega⟩ (Am.bs rfl ?_))
  simp only [Int.toNat_natCast]
  refine Am.bI g0 (Am.bI g1 (Am.bT g2 (Am.bS g3 (Am.bs e2 (Am.bs (v:=termV k' n' s' a' m') rfl (Am.bI rfl (Am.bI rfl (Am.bT rfl (Am.bS rfl (Am.bs rfl (Am.bs e3 (Am.bS rfl ?_))))))))))))
  rw [w64i (n:=(i : Int) + 1) (by omega) (by omega)]
  rfl
theorem l9CopyTerms_run {base f : Nat} {h : AH} {p : Nat→Prop} {l : List Tm} {a : Option Addr} (hl : l.length≤1048576) (hB : ∀ t∈l,TmB f t) (hs : TsR h p f l a) (hb : base≤h.length) (hp : ∀ b,p b→b < h.length) :
  ∃ a' h',run (Et base) 163 [.slice a l.length l.length] h = some (.slice a' l.length l.length,h')∧RowO base 42 4 (TmG base f) (iS h.length h'.length) h' l a'∧KB NoB h h':=by
 suffices w : Wp (run (Et base) 163 [.slice a l.length l.length] h) fun o=>∃ a',o.1 = .slice a' l.length l.length∧RowO base 42 4 (TmG base f) (iS h.length o.2.length) o.2 l a'∧KB NoB h o.2 by
  obtain ⟨⟨u,h'⟩,e,a',rfl,q⟩:=w
  exact ⟨a',h',e,q⟩
 refine W.of (fun r hx=>Am.r163 hx) ?_
 refine W.box hb fun h1 o1 k1 q1=>?_
 obtain ⟨o,e,a',S',y1,y2,y3,y4,y5⟩:=l9CopyTerms_loop (base:=base) hl hB hp hb l.length 0 h1 (at0 h.length) (· = h.length) (by omega) (hs.keep k1 fun _ _ h=>h) (by omega) ⟨[],fun _=>False,o1,by simp,fun b hb=>⟨blk_at0.1 hb,fun h=>h⟩,fun _ h=>h.elim,Chunks.nil⟩ (fun b hb=>by omega)
 obtain ⟨o1',o2,h2⟩:=o
 simp only at y1 y2
 subst y1; subst y2
 rw [show ((0 : Nat) : Int) = 0 from rfl] at e
 refine W.bs e (W.ifT rfl (W.bS rfl (W.ret ⟨a',rfl,y3.mono fun b hb=>y4 b hb,KB.trans k1 y5 (fun _ _ h=>h) (fun i hi hs=>by omega)⟩)))
theorem l9Copy_run {base f : Nat} {h : AH} {p : Nat→Prop} {A : Ac} {cs : List Value} (hB : AcB f A) (x : AcR h p f A cs) (hb : base≤h.length) (hp : ∀ b,p b→b < h.length) :
  ∃ cs' h',run (Et base) 115 [.agg cs.toArray] h = some (.agg cs'.toArray,h')∧AcG base f (iS h.length h'.length) h' A cs'∧KB NoB h h':=by
 obtain ⟨a,b,g,rfl,hr,hx,hl,hlb⟩:=x
 obtain ⟨m1,m2,m3,m4,m5⟩:=hB
 suffices w : Wp (run (Et base) 115 [.agg (acV A.pid A.pc a A.regs.length b A.box.length g A.links.length).toArray] h) fun r=>∃ cs',r.1 = .agg cs'.toArray∧AcG base f (iS h.length r.2.length) r.2 A cs'∧KB NoB h r.2 by
  obtain ⟨⟨u,h'⟩,e,cs',rfl,q⟩:=w
  exact ⟨cs',h',e,q⟩
 refine W.of (fun r hx=>Am.r115 hx) ?_
 refine W.box hb fun h1 o1 k1 q1=>W.box (base:=base) (by omega) fun h2 o2 k2 q2=>W.bI ((o1.keepN k2).at0 (i:=0) rfl) (W.bI ((o1.keepN k2).at0 (i:=1) rfl) (W.bS ((o1.keepN k2).at0 (i:=2) rfl) ?_))
 have o1:=o1.keepN k2
 have k02:=kN k1 k2
 obtain ⟨a3,h3,e3,r3,k3⟩:=l9CopyTerms_run (base:=base) m1 m4 (hr.keep k02 fun _ _ h=>h) (by omega) (fun b hb=>by have:=hp b hb; omega)
 have n3:=k3.1
 have k03:=kN k02 k3
 have sm : ∀ {x y : AH} {i n : Nat} (k : KB NoB x y) (hx : h.length < x.length),sameA x y (some ⟨h.length,i,none⟩) n:=fun k hx=>same_KB k hx (fun h=>h)
 refine W.bs e3 (W.bS rfl (W.gt (sm k3 (by omega)) (W.gt (sm k3 (by omega)) (W.gt (sm k3 (by omega)) (W.bS ((o1.keepN k3).at0 (i:=3) rfl) ?_)))))
 obtain ⟨a4,h4,e4,r4,k4⟩:=l9CopyTerms_run (base:=base) m2 m5 (hx.keep k03 fun _ _ h=>h) (by omega) (fun b hb=>by have:=hp b hb; omega)
 have n4:=k4.1
 have k04:=kN k03 k4
 have nn : ∀ {i : Nat},neA (some ⟨h.length,i,none⟩) h4.length:=ne_A (by omega)
 refine W.bs e4 (W.bS rfl (W.gt (sm k4 (show h.length < h3.length by omega)) (W.gt (sm k4 (show h.length < h3.length by omega)) (W.gt nn (W.gt nn (W.gt nn (W.gt nn (W.box (base:=base) (h:=h4) (by omega) fun h5 oE k5 q5'=>?_))))))))
 have k05:=kN k04 k5
 have o5:=((o1.keepN k3).keepN k4).keepN k5
 refine W.gt nn (W.gt (sm (kN k4 k5) (show h.length < h3.length by omega)) (W.gt (sm (kN (kN k3 k4) k5) (show h.length < h2.length by omega)) (W.bS (o5.at0 (i:=4) rfl) ?_)))
 have hraw : rawAt h5 g (A.links.length * 1) = some (iv .i64 A.links):=by
  have:=(hl.keepN k05).raw (iv_leaf _ _)
  simpa using this
 obtain ⟨a6,h6,e6,r6,k6,d6⟩:=Own.app (x:=oE) (bytes:=8) (n:=0) (m:=A.links.length) (sz:=1) (by simp) (by simp) hraw (by omega) (by omega) (by omega) (by simp)
 simp only [Nat.zero_add,List.nil_append] at e6 r6
 have n6:=k6.1
 have b6 : ∀ b,blk a6 b→h4.length≤b:=fun b hb=>by
  rcases d6 with ⟨_,e,_⟩|d6
  ·rw [e,blk_at0] at hb; omega
  ·have:=d6 b hb; omega
 have k6' : KB (· = h4.length) h5 h6:=k6.mono fun i _ hi=>blk_at0.1 hi
 have o6:=o5.keepB k6' fun i hi=>by rw [blk_at0] at hi; omega
 have z6:=(((o2.keepN k3).keepN k4).keepN k5).keepB k6' fun i hi=>by rw [blk_at0] at hi; omega
 have hne : ¬ (h.length = h4.length):=by omega
 refine W.bs e6 (W.bS rfl (W.gt (same_KB k6' (show h.length < h5.length by omega) hne) (W.gt (same_KB k6' (show h.length < h5.length by omega) hne) (W.wr0 z6 (by simp) (by simp) fun h7 o7 k7 l7=>?_))))
 have hz : setAt (acV 0 0 none 0 none 0 none 0) 0 (acV A.pid A.pc a3 A.regs.length a4 A.box.length a6 A.links.length) = acV A.pid A.pc a3 A.regs.length a4 A.box.length a6 A.links.length:=rfl
 rw [hz] at o7
 have l7 : h7.length = h6.length:=l7
 have k7 : KB (· = h1.length) h6 h7:=k7
 have k57 : KB (fun b=>b = h4.length∨b = h1.length) h5 h7:=KB.trans k6' k7 (fun _ _ h=>.inl h) (fun _ _ h=>.inr h)
 refine W.q5 o7 (W.ret ⟨_,rfl,?_,?_⟩)
 ·refine ⟨a3,a4,a6,iS h2.length h3.length,iS h3.length h4.length,iS h4.length h6.length,rfl,((r3.keep (TmG.kp _ _) k4 fun _ _ h=>h).keep (TmG.kp _ _) k5 fun _ _ h=>h).keep (TmG.kp _ _) k57 fun b hb hk=>by omega,
   (r4.keep (TmG.kp _ _) k5 fun _ _ h=>h).keep (TmG.kp _ _) k57 fun b hb hk=>by omega,r6.keepB k7 fun b hb=>by have:=b6 b hb; omega,fun b hb=>⟨b6 b hb,(r6.lt hb).2⟩,fun b hb=>⟨by omega,by show b < h7.length; omega⟩,fun b hb=>⟨by omega,by show b < h7.length; omega⟩,fun b hb=>⟨by omega,by show b < h7.length; omega⟩,fun b h1 h2=>by omega,fun b h1 h2=>by omega,fun b h1 h2=>by omega⟩
 ·exact kFresh k05 k57 fun i hi=>by omega
theorem sameS_loop {base f f2 b0 b1 : Nat} (ih : SameR base f 207) {p p2 : Nat→Prop} {l m : List Tm} {a a2 : Option Addr} {k n k2 n2 : Int} {s s2 : ByteArray} (hl : l.length≤9223372036854775807) (hlm : l.length = m.length) : ∀ (d i : Nat) (h : AH),i + d = l.length→TsR h p f l a→TsR h p2 f2 m a2→Own base 42 h (at0 b0) (termV k n s a l.length)→Own base 42 h (at0 b1) (termV k2 n2 s2 a2 m.length)→base≤h.length →
  ∃ h',loopL (B207_0 base) [some (.pointer (at0 b0)),some (.pointer (at0 b1)),some (.int .i64 (i : Int))] h = some (if sameLs (sameB f) (l.drop i) (m.drop i) = true then (2,[],h') else (1,[some (.bool false)],h'))∧KB NoB h h':=by
 intro d
 induction d with
 | zero=>
  intro i h hi hs hs2 o o2 hb
  refine ⟨h,?_,KB.refl _ _⟩
  rw [List.drop_eq_nil_of_le (by omega)]
  rw [show sameLs (sameB f) [] (m.drop i) = true from rfl,if_pos rfl]
  refine loop_off (by decide) ?_
  rw [B207_0_eq]
  exact Am.bS (o.at0 (i:=3) rfl) (Am.ifF (by simp; omega) rfl)
 | succ d ihd=>
  intro i h hi hs hs2 o o2 hb
  have hlt : i < l.length:=by omega
  have hlt2 : i < m.length:=by omega
  obtain ⟨ad,c0,c1,c2,c3,c4,rfl,g0,g1,g2,g3,hm⟩:=hs.getT hlt
  obtain ⟨ad2,d0,d1,d2,d3,d4,rfl,y0,y1,y2,y3,hm2⟩:=hs2.getT hlt2
  obtain ⟨h1,e1,k1⟩:=ih f2 h p p2 l[i] m[i] _ _ hm hm2 hb
  rw [List.drop_eq_getElem_cons hlt,List.drop_eq_getElem_cons hlt2,sameLs]
  have head : ∀ {r : Option (Nat × Slots × AH)},(if (!sameB f l[i] m[i]) = true then some (1,[some (.bool false)],h1) else some (0,[some (.pointer (at0 b0)),some (.pointer (at0 b1)),some (.int .i64 (IntKind.wrap .i64 ((i : Int) + (1 : Int))))],h1)) = r→B207_0 base [some (.pointer (at0 b0)),some (.pointer (at0 b1)),some (.int .i64 (i : Int))] h = r:=by
   intro r hr
   rw [B207_0_eq]
   refine Am.bS (o.at0 (i:=3) rfl) (Am.ifT (decide_eq_true (by show (i : Int) < (l.length : Int); omega)) (Am.bS (o.at0 (i:=3) rfl) (Am.ifT ⟨by omega,by show (i : Int) < (l.length : Int); omega⟩ (Am.bs rfl ?_))))
   simp only [Int.toNat_natCast]
   refine Am.bI g0 (Am.bI g1 (Am.bT g2 (Am.bS g3 (Am.bS (o2.at0 (i:=3) rfl) (Am.ifT ⟨by omega,by show (i : Int) < (m.length : Int); omega⟩ (Am.bs rfl ?_))))))
   exact Am.bI y0 (Am.bI y1 (Am.bT y2 (Am.bS y3 (Am.bs e1 (Am.bB rfl hr)))))
  cases c : sameB f l[i] m[i] with
  | false=>
   refine ⟨h1,?_,k1⟩
   rw [Bool.false_and,if_neg (by decide)]
   exact loop_off (by decide) (head (by rw [c]; exact Am.ifT rfl rfl))
  | true=>
   rw [Bool.true_and]
   obtain ⟨h2,m1,m2⟩:=ihd (i + 1) h1 (by omega) (hs.keep k1 fun _ _ h=>h) (hs2.keep k1 fun _ _ h=>h) (o.keepN k1) (o2.keepN k1) (by have:=k1.1; omega)
   refine ⟨h2,loop_on (head ?_) m1,kN k1 m2⟩
   rw [c,w64i (n:=(i : Int) + 1) (by omega) (by omega)]
   exact Am.ifF (by decide) rfl
def in0 : In:=⟨0,0,0,0,0,⟨#[]⟩⟩
def fltA : Acd:=⟨7,0,0,.mk 2 0 flt []⟩
def nextF (F : Nat) (x : In) (A : Ac) (next : Int) : Option (List Tm × List Tm):=
 if (x.op == (14 : Int)) = true then some (A.regs.set x.a.toNat (A.box.getD 0 tmZ),A.box.drop 1)
 else if makesF x.op = true then (match madeF x A.regs A.pid next with|none=>none|some t=>if tOk F t = true then some (A.regs.set x.a.toNat t,A.box) else none)
 else some (A.regs,A.box)
def stepF (F : Nat) (x : In) (A : Ac) (next : Int) : Ac × Acd:=
 if (!(actsF x A.regs next).2) = true then (A,fltA)
 else if (x.op == (19 : Int)) = true then (A,(actsF x A.regs next).1)
 else if (if (x.op == (14 : Int)) = true then ((A.box.length : Int) == (0 : Int)) else false) = true then (A,⟨2,0,0,tmZ⟩)
 else match nextF F x A next with
  | none=>(A,fltA)
  | some (R,B)=>(⟨A.pid,if jumpsF F x A.regs = true then x.n else IntKind.wrap .i64 (A.pc + 1),R,B,A.links⟩,(actsF x A.regs next).1)
theorem acOk_parts {f : Nat} {l : List In} {A : Ac} (h : acOk f l A = true) : codeOk l = true∧(0≤A.pc∧A.pc < (l.length : Int))∧A.regs.length = 8∧tsB f A.regs = true∧A.box.length≤30∧tsB f A.box = true:=by
 unfold acOk at h
 simp only [Bool.and_eq_true,decide_eq_true_eq,beq_iff_eq] at h
 obtain ⟨h1,h2,h3,h4,h5,h6,h7,_⟩:=h
 have:=codeOk_spec h1
 unfold inB at h3
 simp only [Bool.and_eq_true,decide_eq_true_eq] at h3
 rw [w64i (by omega) (by omega)] at h3
 exact ⟨h1,⟨h3.1,by omega⟩,by omega,h5,by omega,h7⟩
def StepQ (base F : Nat) (h : AH) (r : Ac × Acd) (o : Value × AH) : Prop:=
 ∃ cs k n s a m S T,o.1 = .tuple #[.agg cs.toArray,.agg (actV r.2.kind r.2.pid r.2.pc k n s a m).toArray]∧AcG base F S o.2 r.1 cs∧TmG base F T o.2 r.2.t (termV k n s a m)∧(∀ b,S b→¬ T b)∧(∀ b,S b→h.length≤b∧b < o.2.length)∧(∀ b,T b→h.length≤b∧b < o.2.length)∧KB NoB h o.2
theorem atomG {base f : Nat} {S : Fp} {h : AH} {s : ByteArray} {k : Int} (hs : s.size≤maxLen) : TmG base (f + 1) S h (.mk k 0 s []) (termV k 0 s none 0):=⟨hs,by decide,none,rfl,RowO.nil⟩
theorem specSame_run {base : Nat} : ∀ f,SameR base f 207
 | 0=>fun f2 h p p2 t u cs cs2 x=>x.elim
 | f + 1=>fun f2 h p p2 t u cs cs2 x y hb=>by
  cases f2 with
  | zero=>exact y.elim
  | succ f2=>
   obtain ⟨k,n,s,l⟩:=t
   obtain ⟨k',n',s',m⟩:=u
   obtain ⟨a,rfl,hts,_,hl⟩:=x.parts
   obtain ⟨a2,rfl,hts2,_,hl2⟩:=y.parts
   simp only [maxLen] at hl hl2
   refine Wp.run (P:=fun h'=>KB NoB h h') ?_
   refine W.of (fun r hx=>Am.r207 hx) ?_
   have d:=Hs.start hb
   ((refine W.nD d fun h1 d _ kh1=>?_); (refine W.nD d fun h2 d _ kh2=>?_))
   apply W.jb (if (k != k') = true then true else if (n != n') = true then true else if (!(s.toList == s'.toList)) = true then true else ((l.length : Int) != (m.length : Int))) d
   ·((with_reducible repeat refine W.a1 d ?_))
    refine W.ite (fun c=>?_) (fun c=>?_)
    ·exact W.lb rfl (by rw [if_pos c]; rfl) (KB.refl _ _)
    rw [if_neg c]
    ((with_reducible repeat refine W.a1 d ?_))
    refine W.ite (fun c=>?_) (fun c=>?_)
    ·exact W.lb rfl (by rw [if_pos c]; rfl) (KB.refl _ _)
    rw [if_neg c]
    ((with_reducible repeat refine W.a1 d ?_))
    refine W.ite (fun c=>?_) (fun c=>?_)
    ·exact W.lb rfl (by rw [if_pos c]; rfl) (KB.refl _ _)
    rw [if_neg c]
    ((with_reducible repeat refine W.a1 d ?_))
    exact W.lb rfl rfl (KB.refl _ _)
   intro h3 d n3
   ((with_reducible repeat refine W.a2 ?_))
   have hq : sameB (f + 1) (.mk k n s l) (.mk k' n' s' m) = (if (if (k != k') = true then true else if (n != n') = true then true else if (!(s.toList == s'.toList)) = true then true else ((l.length : Int) != (m.length : Int))) = true then false else sameLs (sameB f) l m):=by
    rw [sameB]
    by_cases c1 : (k != k') = true
    ·rw [if_pos c1,if_pos c1]; rfl
    rw [if_neg c1,if_neg c1]
    by_cases c2 : (n != n') = true
    ·rw [if_pos c2,if_pos c2]; rfl
    rw [if_neg c2,if_neg c2]
    by_cases c3 : (!(s.toList == s'.toList)) = true
    ·rw [if_pos c3,if_pos c3]; rfl
    rw [if_neg c3,if_neg c3]
   rw [hq]
   refine W.ite (fun c=>?_) (fun c=>?_)
   ·exact W.ret ⟨by rw [if_pos c],d.kb⟩
   ·have hlm : l.length = m.length:=by
     rcases Nat.decEq l.length m.length with hne|he
     ·exfalso
      refine c ?_
      split
      ·rfl
      split
      ·rfl
      split
      ·rfl
      ·simp; omega
     ·exact he
    rw [if_neg c]
    obtain ⟨h4,e4,k4⟩:=sameS_loop (base:=base) (specSame_run f) (k:=k) (n:=n) (s:=s) (k2:=k') (n2:=n') (s2:=s') (by omega) hlm l.length 0 h3 (by omega) (hts.keep d.kb fun _ _ h=>h) (hts2.keep d.kb fun _ _ h=>h) (d.ol (by (· repeat first|exact .head _|apply List.Mem.tail))) (d.ol (by (· repeat first|exact .head _|apply List.Mem.tail))) d.ge
    rw [List.drop_zero,List.drop_zero,show ((0 : Nat) : Int) = 0 from rfl] at e4
    refine W.bs e4 ?_
    have d:=d.kN k4
    cases sameLs (sameB f) l m with
    | true=>exact W.ifF (show ¬ (2 : Nat) = 1 by decide) (W.ifT rfl (W.ret ⟨rfl,d.kb⟩))
    | false=>exact W.ifT rfl (W.bB rfl (W.ret ⟨rfl,d.kb⟩))
def MkQ (base F : Nat) (h : AH) (o : Option Tm) (r : Value × AH) : Prop:=
 ∃ k n s a m b,r.1 = .tuple #[.agg (termV k n s a m).toArray,.bool b]∧KB NoB h r.2∧match o with
  | none=>b = false
  | some t=>b = true∧TmG base F (iS h.length r.2.length) r.2 t (termV k n s a m)
theorem MkQ.ok {base F : Nat} {h h' : AH} {k n : Int} {s : ByteArray} {a : Option Addr} {l : List Tm} {m : Nat} (kb : KB NoB h h') (x : TmG base F (iS h.length h'.length) h' (.mk k n s l) (termV k n s a m)) : MkQ base F h (some (.mk k n s l)) (.tuple #[.agg (termV k n s a m).toArray,.bool true],h'):=
 ⟨k,n,s,a,m,true,rfl,kb,rfl,x⟩
theorem MkQ.no {base F : Nat} {h h' : AH} {k n : Int} {s : ByteArray} {a : Option Addr} {m : Nat} (kb : KB NoB h h') : MkQ base F h none (.tuple #[.agg (termV k n s a m).toArray,.bool false],h'):=
 ⟨k,n,s,a,m,false,rfl,kb,rfl⟩
theorem tmL_G {base f : Nat} {S : Fp} {h : AH} {k n : Int} {s : ByteArray} (hs : s.size≤maxLen) : TmG base (f + 1) S h (.mk k n s []) (termV k n s none 0):=⟨hs,by decide,none,rfl,RowO.nil⟩
theorem made6 {x : In} {R : List Tm} {pid next k n : Int} {s : ByteArray} {l : List Tm} (h : x.op = 6) (e : rg R x.b = .mk k n s l) : madeF x R pid next = if (if (k != (4 : Int)) = true then true else decide (x.n ≥ (l.length : Int))) = true then none else some (l.getD x.n.toNat tmZ):=by
 unfold madeF
 rw [if_neg (by simp [h]),if_neg (by simp [h]),if_neg (by simp [h]),if_neg (by simp [h]),if_neg (by simp [h]),if_neg (by simp [h]),if_pos (by simp [h]),e]
 rfl
theorem made7 {x : In} {R : List Tm} {pid next k n : Int} {s : ByteArray} {l : List Tm} (h : x.op = 7) (e : rg R x.b = .mk k n s l) : madeF x R pid next = if (if (k != (5 : Int)) = true then true else ((l.length : Int) == (0 : Int))) = true then none else some (l.getD 0 tmZ):=by
 unfold madeF
 rw [if_neg (by simp [h]),if_neg (by simp [h]),if_neg (by simp [h]),if_neg (by simp [h]),if_neg (by simp [h]),if_neg (by simp [h]),if_neg (by simp [h]),if_pos (by simp [h]),e]
 rfl
theorem made8 {x : In} {R : List Tm} {pid next k n : Int} {s : ByteArray} {l : List Tm} (h : x.op = 8) (e : rg R x.b = .mk k n s l) : madeF x R pid next = if (if (k != (5 : Int)) = true then true else ((l.length : Int) == (0 : Int))) = true then none else some (.mk 5 0 ⟨#[]⟩ (l.drop 1)):=by
 unfold madeF
 rw [if_neg (by simp [h]),if_neg (by simp [h]),if_neg (by simp [h]),if_neg (by simp [h]),if_neg (by simp [h]),if_neg (by simp [h]),if_neg (by simp [h]),if_neg (by simp [h]),if_pos (by simp [h]),e]
 rfl
theorem made9 {x : In} {R : List Tm} {pid next k n k2 n2 : Int} {s s2 : ByteArray} {l l2 : List Tm} (h : x.op = 9) (e : rg R x.b = .mk k n s l) (e2 : rg R x.c = .mk k2 n2 s2 l2) : madeF x R pid next = if (k == (1 : Int)) = true then (if (k2 == (1 : Int)) = true then some (.mk 1 (IntKind.wrap .i64 (n + n2)) ⟨#[]⟩ []) else none) else none:=by
 unfold madeF
 rw [if_neg (by simp [h]),if_neg (by simp [h]),if_neg (by simp [h]),if_neg (by simp [h]),if_neg (by simp [h]),if_neg (by simp [h]),if_neg (by simp [h]),if_neg (by simp [h]),if_neg (by simp [h]),if_pos (by simp [h]),e,e2]
 rfl
theorem W.o4 {β : Type} {Q : β→Prop} {base t g : Nat} {S : Fp} {h : AH} {l : List Tm} {a : Option Addr} (hs : RowO base t 4 (TmG base (g + 1)) S h l a) {i : Nat} (hi : i < l.length) {f : Int→Int→ByteArray→Option Addr × Nat→Option β} (w : ∀ k n s a2 l2,l[i] = .mk k n s l2→TmG base (g + 1) S h (.mk k n s l2) (termV k n s a2 l2.length)→RowO base 42 4 (TmG base g) S h l2 a2→s.size≤maxLen→l2.length≤maxLen→Wp (f k n s (a2,l2.length)) Q) :
  Wp (a.bind fun ad=>((Am.cell h ad.block (ad.off + i * 4)).bind (getI .i64)).bind fun n1=>((Am.cell h ad.block (ad.off + i * 4 + 1)).bind (getI .i64)).bind fun n2=>((Am.cell h ad.block (ad.off + i * 4 + 1 + 1)).bind getStr).bind fun s3=>((Am.cell h ad.block (ad.off + i * 4 + 1 + 1 + 1)).bind getS).bind fun l4=>f n1 n2 s3 l4) Q:=by
 obtain ⟨ad,k,n,s,a2,m,C,rfl,_,g0,g1,g2,g3,hm,hC⟩:=hs.getG hi
 obtain ⟨l2,e,rfl,h1,h2,r⟩:=hm.parts
 refine W.bs rfl (W.bI g0 (W.bI g1 (W.bT g2 (W.bS g3 (w k n s a2 l2 e ?_ (r.mono hC) h1 h2)))))
 rw [← e]
 exact TmG.mo _ _ _ _ _ _ _ hC hm
theorem kpO {α : Type} {w base t : Nat} {P : Fp→AH→α→List Value→Prop} (kp : Kp P) {S : Fp} {l : List α} {a : Option Addr} : ∀ (U : Fp) (h h' : AH),KB U h h'→(∀ b,S b→¬ U b)→RowO base t w P S h l a→RowO base t w P S h' l a:=fun U h h' k hs x=>x.keep kp k hs
theorem TmG.eq {base f : Nat} {S : Fp} {h : AH} {k n k' n' : Int} {s s' : ByteArray} {l : List Tm} {a : Option Addr} {m : Nat} (x : TmG base f S h (.mk k n s l) (termV k' n' s' a m)) : k = k'∧n = n'∧s = s'∧m = l.length:=by
 cases f with
 | zero=>exact x.elim
 | succ f=>
  obtain ⟨l2,e,hm,_⟩:=TmG.parts x
  injection e with t1 t2 t3 t4
  exact ⟨t1,t2,t3,by rw [hm,t4]⟩
theorem l9Part_run {base f : Nat} {h : AH} {S : Fp} {A : Ac} {cs : List Value} {x : In} {next : Int} (hA : AcG base (f + 1) S h A cs) (hn : A.regs.length = 8) (hx : InB x) (hxb : x.b≤7) (hop : x.op = 6∨x.op = 7∨x.op = 8∨x.op = 9) (hB : ∀ t∈A.regs,TmB (f + 1) t) (hS : ∀ b,S b→b < h.length) (hb : base≤h.length) :
  Wp (run (Et base) 236 [.agg (inV x).toArray,.agg cs.toArray] h) (MkQ base (f + 2) h (madeF x A.regs A.pid next)):=by
 obtain ⟨⟨a0,a7⟩,⟨b0,_⟩,⟨c0,c7⟩,hx4,hx6,hop0,hop1⟩:=hx
 obtain ⟨a,b,g,S1,S2,S3,rfl,hr,_,_,_,s1,_⟩:=hA
 have d:=(Hs.start hb).inp S1 _ hr (kpO (TmG.kp _ _)) (fun b hb=>hS b (s1 b hb)) (fun x hx=>nomatch hx) rfl
 have hbl : x.b.toNat < A.regs.length:=by omega
 have hcl : x.c.toNat < A.regs.length:=by omega
 refine W.of (fun r hx=>Am.r236 hx) ?_
 ((try simp only [n1,n2,n3,n4,n5,n6] at d); (refine W.nD d fun h1 d _ kh1=>?_); (refine W.nD d fun h2 d _ kh2=>?_); (refine W.nD d fun h3 d _ kh3=>?_); (with_reducible repeat first|refine W.a1 d ?_|refine W.a8 ?_))
 refine W.o4 (d.rs (i:=0) rfl) hbl fun kb nb sb ab lb eB tB rB hs1 hl1=>?_
 have d:=d.also (i:=0) rfl rfl _ rB (kpO (TmG.kp _ _))
 have eB':=rg_eq (R:=A.regs) b0 hbl
 rw [eB] at eB'
 have hBb:=hB _ (List.getElem_mem hbl)
 rw [eB] at hBb
 obtain ⟨B1,B2,B3⟩:=hBb
 ((try simp only [n1,n2,n3,n4,n5,n6] at d); (refine W.nD d fun h4 d _ kh4=>?_); (with_reducible repeat first|refine W.a1 d ?_|refine W.a5 d fun hw d lw kw=>?_))
 refine W.ite (fun c=>?_) (fun c7=>?_)
 ·rw [made6 (beq_iff_eq.1 c) eB']
  have e6:=hx6 (beq_iff_eq.1 c)
  apply W.jb (if (kb != (4 : Int)) = true then true else decide (x.n ≥ (lb.length : Int))) d
  ·((try simp only [n1,n2,n3,n4,n5,n6] at d); (with_reducible repeat refine W.a1 d ?_))
   refine W.ite (fun c=>?_) (fun c=>?_)
   ·exact W.lb rfl (by rw [if_pos c]; rfl) (KB.refl _ _)
   rw [if_neg c]
   ((with_reducible repeat refine W.a1 d ?_))
   exact W.lb rfl rfl (KB.refl _ _)
  intro h5 d n5
  ((try simp only [n1,n2,n3,n4,n5,n6] at d); (with_reducible repeat refine W.a2 ?_))
  refine W.ite (fun c=>?_) (fun c=>?_)
  ·rw [if_pos c]
   ((with_reducible repeat first|refine W.a1 d ?_|refine W.a5 d fun hw d lw kw=>?_))
   exact W.ret (.no d.kb)
  ·have hln : x.n.toNat < lb.length:=by
    split at c
    ·exact absurd rfl c
    ·simp at c; omega
   rw [if_neg c]
   have cc : x.n < (lb.length : Int):=by omega
   ((with_reducible repeat first|refine W.a1 d ?_|refine W.a8 ?_))
   cases f with
   | zero=>exact ((B3 _ (List.getElem_mem hln)) : TmB 0 _).elim
   | succ f=>
   refine W.o4 (d.rs (i:=1) rfl) hln fun kc nc sc ac lc eC tC rC hs2 hl2=>?_
   have hBc:=B3 _ (List.getElem_mem hln)
   rw [eC] at hBc
   obtain ⟨cs2,h6,e6,t6,k6⟩:=l1CopyG_run (base:=base) (f + 1) h5 S1 _ _ tC.tmR hBc d.ge (d.rlt (i:=1) rfl)
   obtain ⟨k',n',s',a',m',rfl⟩:=t6.form
   obtain ⟨rfl,rfl,rfl,rfl⟩:=t6.eq
   have d:=d.callP (TmG.kp _ _) k6 t6
   refine W.bs e6 ?_
   ((try simp only [n1,n2,n3,n4,n5,n6] at d); (with_reducible repeat first|refine W.a1 d ?_|refine W.a2 ?_|refine W.a5 d fun hw d lw kw=>?_))
   have eD : lb.getD x.n.toNat tmZ = .mk kc nc sc lc:=by simp [hln,eC]
   rw [eD]
   exact W.ret (.ok d.kb (TmG.le (by omega) (d.out (TmG.mo _ _) (i:=2) rfl)))
 apply W.jb (decide (x.op = 7∨x.op = 8)) d
 ·refine W.ite (fun c=>?_) (fun c=>?_)
  ·exact W.lb rfl (by rw [c]; have:=beq_iff_eq.1 c; simp [this]) (KB.refl _ _)
  ·have c' : x.op≠7:=by simpa using c
   exact W.lb rfl (by congr 3; simp [c']; rfl) (KB.refl _ _)
 intro h5 d n5
 ((try simp only [n1,n2,n3,n4,n5,n6] at d); (with_reducible repeat refine W.a2 ?_))
 have c7' : x.op≠6:=by simpa using c7
 refine W.ite (fun c=>?_) (fun c=>?_)
 ·have c78:=of_decide_eq_true c
  apply W.jb (if (kb != (5 : Int)) = true then true else ((lb.length : Int) == (0 : Int))) d
  ·((with_reducible repeat refine W.a1 d ?_))
   refine W.ite (fun c=>?_) (fun c=>?_)
   ·exact W.lb rfl (by rw [if_pos c]; rfl) (KB.refl _ _)
   rw [if_neg c]
   ((with_reducible repeat refine W.a1 d ?_))
   exact W.lb rfl rfl (KB.refl _ _)
  intro h6 d n6
  ((with_reducible repeat refine W.a2 ?_))
  refine W.ite (fun e=>?_) (fun e=>?_)
  ·((with_reducible repeat first|refine W.a1 d ?_|refine W.a5 d fun hw d lw kw=>?_))
   rcases c78 with c78|c78
   ·rw [made7 c78 eB',if_pos e]
    exact W.ret (.no d.kb)
   ·rw [made8 c78 eB',if_pos e]
    exact W.ret (.no d.kb)
  ·have hln : 0 < lb.length:=by
    split at e
    ·exact absurd rfl e
    ·simp at e
     rcases Nat.eq_zero_or_pos lb.length with h|h
     ·exact absurd (List.eq_nil_of_length_eq_zero h) e
     ·exact h
   ((with_reducible repeat refine W.a1 d ?_))
   refine W.ite (fun c8=>?_) (fun c8=>?_)
   ·rw [made7 (beq_iff_eq.1 c8) eB',if_neg e]
    have hln' : (0 : Int) < (lb.length : Int):=by omega
    ((with_reducible repeat first|refine W.a1 d ?_|refine W.a8 ?_))
    cases f with
    | zero=>exact ((B3 _ (List.getElem_mem hln)) : TmB 0 _).elim
    | succ f=>
    refine W.o4 (i:=0) (d.rs (i:=1) rfl) hln fun kc nc sc ac lc eC tC rC hs2 hl2=>?_
    have hBc:=B3 _ (List.getElem_mem hln)
    rw [eC] at hBc
    obtain ⟨cs2,h7,e7,t7,k7⟩:=l1CopyG_run (base:=base) (f + 1) h6 S1 _ _ tC.tmR hBc d.ge (d.rlt (i:=1) rfl)
    obtain ⟨k',n',s',a',m',rfl⟩:=t7.form
    obtain ⟨rfl,rfl,rfl,rfl⟩:=t7.eq
    have d:=d.callP (TmG.kp _ _) k7 t7
    refine W.bs e7 ?_
    ((try simp only [n1,n2,n3,n4,n5,n6] at d); (with_reducible repeat first|refine W.a1 d ?_|refine W.a2 ?_|refine W.a5 d fun hw d lw kw=>?_))
    have eD : lb.getD 0 tmZ = .mk kc nc sc lc:=by simp [hln,eC]
    rw [eD]
    exact W.ret (.ok d.kb (TmG.le (by omega) (d.out (TmG.mo _ _) (i:=2) rfl)))
   ·have c8' : x.op = 8:=c78.resolve_left fun h=>c8 (by simp [h])
    rw [made8 c8' eB',if_neg e]
    ((with_reducible repeat refine W.a1 d ?_))
    refine W.ifT ⟨by decide,by show (1 : Int)≤(lb.length : Int); omega,Int.le_refl _,(d.rs (i:=1) rfl).tyOk _⟩ ?_
    have hR:=(d.rs (i:=1) rfl).tsG.part (i:=1) (n:=lb.length - 1) (by omega)
    have el : (lb.drop 1).take (lb.length - 1) = lb.drop 1:=List.take_of_length_le (by simp)
    rw [el] at hR
    have ln : (lb.drop 1).length = lb.length - 1:=by simp
    obtain ⟨a7',h7,e7,r7,k7⟩:=l9CopyTerms_run (base:=base) (by omega) (fun t ht=>B3 t (List.mem_of_mem_drop ht)) hR d.ge (d.rlt (i:=0) rfl)
    rw [ln] at e7
    have d:=d.call k7 _ _ r7 (kpO (TmG.kp _ _)) (fun b hb=>hb)
    refine W.bs e7 ?_
    ((try simp only [n1,n2,n3,n4,n5,n6] at d); (with_reducible repeat first|refine W.a1 d ?_|refine W.a2 ?_|refine W.a5 d fun hw d lw kw=>?_))
    have rr:=d.rs (i:=2) rfl
    have r8 : RowO base 42 4 (TmG base f) (iS h.length _) _ _ _:=rr.mono fun b hb=>⟨(d.rfr (i:=2) rfl rfl b hb).resolve_left fun h=>h,d.rlt (i:=2) rfl b hb⟩
    refine W.ret (.ok d.kb ⟨by decide,by simp [maxLen] at hl1 ⊢; omega,_,by rw [ln],r8.imp fun _ _ _ _=>TmG.le (by omega)⟩)
 ·have c9 : x.op = 9:=by simp at c; omega
  ((with_reducible repeat first|refine W.a1 d ?_|refine W.a8 ?_))
  refine W.o4 (d.rs (i:=0) rfl) hcl fun kc nc sc ac lc eC tC rC hs2 hl2=>?_
  have eC':=rg_eq (R:=A.regs) c0 hcl
  rw [eC] at eC'
  rw [made9 c9 eB' eC']
  ((refine W.nD d fun h6 d _ kh6=>?_); (with_reducible repeat first|refine W.a1 d ?_|refine W.a5 d fun hw d lw kw=>?_))
  obtain ⟨h7,e7,k7⟩:=mkInt_run (base:=base) (v:=IntKind.wrap .i64 (nb + nc)) d.ge
  have d:=d.kN k7
  refine W.bs e7 ?_
  ((try simp only [n1,n2,n3,n4,n5,n6] at d); (with_reducible repeat first|refine W.a1 d ?_|refine W.a2 ?_|refine W.a6 d ?_))
  refine W.ite (fun c1=>?_) (fun c1=>?_)
  ·rw [if_pos c1]
   ((with_reducible repeat first|refine W.a1 d ?_|refine W.a5 d fun hw d lw kw=>?_|refine W.a6 d ?_))
   by_cases c2 : (kc == (1 : Int)) = true
   ·rw [if_pos c2,c2]
    exact W.ret (.ok d.kb (tmL_G (by decide)))
   ·have c2' : (kc == (1 : Int)) = false:=by simpa using c2
    rw [if_neg c2,c2']
    exact W.ret (.no d.kb)
  ·rw [if_neg c1]
   ((with_reducible repeat first|refine W.a1 d ?_|refine W.a5 d fun hw d lw kw=>?_))
   exact W.ret (.no d.kb)
theorem mkAtom_run {base : Nat} {h : AH} {s : ByteArray} (hb : base≤h.length) : ∃ h',run (Et base) 208 [.string s] h = some (.agg (termV 2 0 s none 0).toArray,h')∧KB NoB h h':=by
 refine Wp.run (P:=fun h'=>KB NoB h h') ?_
 refine W.of (fun r hx=>Am.r208 hx) ?_
 exact W.nw hb rfl fun h1 o1 k1 q1=>W.q4 o1 (W.ret ⟨rfl,k1⟩)
theorem l9Make_run {base f : Nat} {h : AH} {S : Fp} {A : Ac} {cs : List Value} {x : In} {next : Int} (hA : AcG base (f + 1) S h A cs) (hn : A.regs.length = 8) (hx : InB x) (hm : makesF x.op = true) (h14 : x.op≠14) (hxs : x.s.size≤1048576) (hB : ∀ t∈A.regs,TmB (f + 1) t) (hS : ∀ b,S b→b < h.length) (hb : base≤h.length) :
  Wp (run (Et base) 227 [.agg (inV x).toArray,.agg cs.toArray,.int .i64 next] h) (MkQ base (f + 2) h (madeF x A.regs A.pid next)):=by
 have hx':=hx
 have hA':=hA
 obtain ⟨⟨a0,a7⟩,⟨b0,b7⟩,⟨c0,c7⟩,hx4,hx6,hop0,hop1⟩:=hx
 obtain ⟨a,b,g,S1,S2,S3,rfl,hr,_,_,_,s1,_⟩:=hA
 have hxb : x.b≤7:=b7.resolve_left fun e=>by
  unfold makesF at hm
  rw [e] at hm
  exact absurd hm (by decide)
 have d:=((Hs.start hb).inp S1 _ hr (kpO (TmG.kp _ _)) (fun b hb=>hS b (s1 b hb)) (fun x hx=>nomatch hx) rfl).inp S _ hA' (fun U h h' k hs x=>AcG.kp _ _ _ U h h' _ _ k hs x) hS (fun x hx=>nomatch hx) rfl
 have hbl : x.b.toNat < A.regs.length:=by omega
 have hcl : x.c.toNat < A.regs.length:=by omega
 have leafB : ∀ {k n : Int} {s : ByteArray},s.size≤1048576→TmB (f + 2) (.mk k n s []):=fun hs=>⟨hs,by decide,fun _ h=>nomatch h⟩
 refine W.of (fun r hx=>Am.r227 hx) ?_
 ((try simp only [n1,n2,n3,n4,n5,n6] at d); (refine W.nD d fun h1 d _ kh1=>?_); (refine W.nD d fun h2 d _ kh2=>?_); (refine W.nD d fun h3 d _ kh3=>?_); (with_reducible repeat refine W.a1 d ?_))
 refine W.ite (fun c=>?_) (fun c1=>?_)
 ·((with_reducible repeat refine W.a1 d ?_))
  obtain ⟨h4,e4,k4⟩:=mkInt_run (base:=base) (v:=x.n) d.ge
  have d:=d.kN k4
  refine W.bs e4 ?_
  ((with_reducible repeat first|refine W.a1 d ?_|refine W.a2 ?_|refine W.a5 d fun hw d lw kw=>?_))
  have em : madeF x A.regs A.pid next = some (.mk 1 x.n ⟨#[]⟩ []):=by unfold madeF; rw [if_pos c]
  rw [em]
  exact W.ret (.ok d.kb (tmL_G (by decide)))
 refine W.ite (fun c=>?_) (fun c2=>?_)
 ·((with_reducible repeat refine W.a1 d ?_))
  obtain ⟨h4,e4,k4⟩:=mkAtom_run (base:=base) (s:=x.s) d.ge
  have d:=d.kN k4
  refine W.bs e4 ?_
  ((with_reducible repeat first|refine W.a1 d ?_|refine W.a2 ?_|refine W.a5 d fun hw d lw kw=>?_))
  have em : madeF x A.regs A.pid next = some (.mk 2 0 x.s []):=by unfold madeF; rw [if_neg c1,if_pos c]
  rw [em]
  exact W.ret (.ok d.kb (tmL_G (by simp only [maxLen]; omega)))
 refine W.ite (fun c=>?_) (fun c3=>?_)
 ·((with_reducible repeat first|refine W.a1 d ?_|refine W.a5 d fun hw d lw kw=>?_))
  have em : madeF x A.regs A.pid next = some (.mk 5 0 ⟨#[]⟩ []):=by unfold madeF; rw [if_neg c1,if_neg c2,if_pos c]
  rw [em]
  exact W.ret (.ok d.kb (tmL_G (by decide)))
 refine W.ite (fun c=>?_) (fun c4=>?_)
 ·((with_reducible repeat first|refine W.a1 d ?_|refine W.a8 ?_))
  refine W.o4 (d.rs (i:=0) rfl) hbl fun kb nb sb ab lb eB tB rB hs1 hl1=>?_
  have hBb:=hB _ (List.getElem_mem hbl)
  rw [eB] at hBb
  obtain ⟨cs2,h6,e6,t6,k6⟩:=l1CopyG_run (base:=base) (f + 1) h3 S1 _ _ tB.tmR hBb d.ge (d.rlt (i:=0) rfl)
  obtain ⟨k',n',s',a',m',rfl⟩:=t6.form
  obtain ⟨rfl,rfl,rfl,rfl⟩:=t6.eq
  have d:=d.callP (TmG.kp _ _) k6 t6
  refine W.bs e6 ?_
  ((try simp only [n1,n2,n3,n4,n5,n6] at d); (with_reducible repeat first|refine W.a1 d ?_|refine W.a2 ?_|refine W.a5 d fun hw d lw kw=>?_))
  have em : madeF x A.regs A.pid next = some (rg A.regs x.b):=by unfold madeF; rw [if_neg c1,if_neg c2,if_neg c3,if_pos c]
  rw [em,rg_eq b0 hbl,eB]
  exact W.ret (.ok d.kb (TmG.le (by omega) (d.out (TmG.mo _ _) (i:=2) rfl)))
 refine W.ite (fun c=>?_) (fun c5=>?_)
 ·((with_reducible repeat refine W.a1 d ?_))
  have h4':=hx4 (beq_iff_eq.1 c)
  have hw : IntKind.wrap .i64 (x.b + x.n) = x.b + x.n:=w64i (by omega) (by omega)
  rw [hw]
  refine W.ifT ⟨b0,by omega,by show x.b + x.n≤(A.regs.length : Int); omega,(d.rs (i:=0) rfl).tyOk _⟩ ?_
  have ln : ((A.regs.drop x.b.toNat).take x.n.toNat).length = (x.b + x.n).toNat - x.b.toNat:=by simp; omega
  have hR:=(d.rs (i:=0) rfl).tsG.part (i:=x.b.toNat) (n:=x.n.toNat) (by omega)
  obtain ⟨a7',h7,e7,r7,k7⟩:=l9CopyTerms_run (base:=base) (by omega) (fun t ht=>hB t (List.mem_of_mem_drop (List.mem_of_mem_take ht))) hR d.ge (d.rlt (i:=0) rfl)
  rw [ln] at e7
  have d:=d.call k7 _ _ r7 (kpO (TmG.kp _ _)) (fun b hb=>hb)
  refine W.bs e7 ?_
  ((try simp only [n1,n2,n3,n4,n5,n6] at d); (with_reducible repeat first|refine W.a1 d ?_|refine W.a2 ?_|refine W.a5 d fun hw d lw kw=>?_))
  have em : madeF x A.regs A.pid next = some (.mk 4 0 ⟨#[]⟩ ((A.regs.drop x.b.toNat).take x.n.toNat)):=by unfold madeF; rw [if_neg c1,if_neg c2,if_neg c3,if_neg c4,if_pos c]
  rw [em]
  have rr:=d.rs (i:=2) rfl
  have r8 : RowO base 42 4 (TmG base (f + 1)) (iS h.length _) _ _ _:=rr.mono fun b hb=>⟨(d.rfr (i:=2) rfl rfl b hb).resolve_left fun h=>h,d.rlt (i:=2) rfl b hb⟩
  refine W.ret (.ok d.kb ⟨by decide,by simp [maxLen]; omega,_,by rw [ln],r8⟩)
 refine W.ite (fun c=>?_) (fun c6=>?_)
 ·((with_reducible repeat first|refine W.a1 d ?_|refine W.a8 ?_))
  refine W.o4 (d.rs (i:=0) rfl) hbl fun kb nb sb ab lb eB tB rB hs1 hl1=>?_
  have hBb:=hB _ (List.getElem_mem hbl)
  rw [eB] at hBb
  obtain ⟨cs2,h6,e6,t6,k6⟩:=l1CopyG_run (base:=base) (f + 1) h3 S1 _ _ tB.tmR hBb d.ge (d.rlt (i:=0) rfl)
  obtain ⟨k',n',s',a',m',rfl⟩:=t6.form
  obtain ⟨rfl,rfl,rfl,rfl⟩:=t6.eq
  have d:=d.callP (TmG.kp _ _) k6 t6
  refine W.bs e6 ?_
  ((try simp only [n1,n2,n3,n4,n5,n6] at d); (with_reducible repeat first|refine W.a1 d ?_|refine W.a2 ?_|refine W.a6 d ?_|refine W.a8 ?_))
  obtain ⟨ad,kc,nc,sc,ac,mc,CC,rfl,hbk,g0,g1,g2,g3,hmC,hCC⟩:=(d.rs (i:=0) rfl).getG hcl
  obtain ⟨lc,eC,rfl,hs2,hl2,rC⟩:=hmC.parts
  have hBc:=hB _ (List.getElem_mem hcl)
  rw [eC] at hBc
  have hbS : ad.block < h.length:=by
   obtain ⟨vs,T,w1,w2,w3,_⟩:=hr
   exact hS _ (s1 _ (w3 _ ⟨ad,rfl,rfl⟩).1)
  refine W.bs rfl (W.gt (same_KB k6 (by omega) (fun h=>h)) (W.bS g3 ?_))
  have n6:=k6.1
  obtain ⟨a7',h7,e7,r7,k7⟩:=l9CopyTerms_run (base:=base) hBc.2.1 hBc.2.2 (rC.mono hCC).tsG d.ge (d.rlt (i:=0) rfl)
  have n7:=k7.1
  have d:=d.call k7 _ _ r7 (kpO (TmG.kp _ _)) (fun b hb=>hb)
  refine W.bs e7 ?_
  ((try simp only [n1,n2,n3,n4,n5,n6] at d); (with_reducible repeat refine W.a2 ?_))
  refine W.gt (ne_A (n:=h7.length) (by omega)) ?_
  ((with_reducible repeat refine W.a7 ?_); (refine W.nD d fun h8 d _ kh8=>?_))
  have d:=d.unbox .here
  have t2 : TmG base (f + 1) (iS h3.length h6.length) h8 _ _:=d.rs (i:=2) rfl
  have t4 : Own base 42 h8 (at0 h7.length) _:=d.rs (i:=4) rfl
  have one:=RowO.one (w:=4) t2 (fun hb=>by omega) rfl t4
  have d:=d.joinO (TmG.kp _ _) (Upd.at (i:=2) rfl) (Upd.at (i:=4) rfl) rfl rfl (KB.refl NoB _) one (fun _ h=>h.elim) (fun b hb=>hb.elim (fun h=>.inr (.inl h)) .inl)
  have t3 : RowO base 42 4 (TmG base f) _ h8 _ _:=d.rs (i:=3) rfl
  obtain ⟨vs2,T2,er,ev,_,hT2,_,ch2⟩:=RowO.raws (w:=4) (fun S h x cs y=>by obtain ⟨_,_,_,_,_,rfl⟩:=TmG.form y; rfl) (by decide) t3
  have one' : RowO base 42 4 (TmG base (f + 1)) _ h8 _ _:=d.rs (i:=4) rfl
  obtain ⟨a9,h9,e9,r9,k9⟩:=one'.appR (TmG.kp _ _) (bytes:=56) er ev (ch2.imp fun _ _ _ _=>TmG.le (by omega)) (by decide) (fun b hb hb'=>by have:=hT2 b hb; omega) (fun b hb=>d.rlt (i:=3) rfl b (hT2 b hb)) (fun b hb=>d.rlt (i:=4) rfl b hb) d.ge (by have:=hBc.2.1; simp; omega) (by have:=hBc.2.1; simp; omega)
  have n9:=k9.1
  have d:=d.joinO (TmG.kp _ _) (Upd.at (i:=3) rfl) (Upd.at (i:=4) rfl) rfl rfl k9 r9 (fun b hb=>.inl (by obtain ⟨vs,T,_,_,w3,_⟩:=one'; exact (w3 b hb).1)) (fun b hb=>by
   rcases hb with hb|hb|hb
   ·exact .inl hb
   ·exact .inr (.inl (hT2 b hb))
   ·exact .inr (.inr hb))
  refine W.bs e9 ?_
  ((try simp only [n1,n2,n3,n4,n5,n6] at d); (with_reducible repeat first|refine W.a1 d ?_|refine W.a2 ?_|refine W.bo ?_|refine W.a8 ?_))
  obtain ⟨ad2,kc2,nc2,sc2,ac2,mc2,CC2,ead,hbk2,g02,_,_,_,hmC2,hCC2⟩:=(d.rs (i:=0) rfl).getG hcl
  injection ead with ead
  subst ead
  rw [eC] at hmC2
  obtain ⟨rfl,rfl,rfl,rfl⟩:=hmC2.eq
  refine W.bI g02 ?_
  ((with_reducible repeat refine W.a5 d fun hw d lw kw=>?_))
  refine W.gt (same_KB kw (by omega) (by show ¬ (ad.block = h2.length); omega)) ?_
  ((try simp only [n1,n2,n3,n4,n5,n6] at d); (with_reducible repeat first|refine W.a1 d ?_|refine W.a6 d ?_))
  have em : madeF x A.regs A.pid next = (if (kc == (5 : Int)) = true then some (.mk 5 0 ⟨#[]⟩ (rg A.regs x.b :: lc)) else none):=by
   unfold madeF
   rw [if_neg c1,if_neg c2,if_neg c3,if_neg c4,if_neg c5,if_pos c,rg_eq c0 hcl,eC]
   rfl
  rw [em,rg_eq b0 hbl,eB]
  have rr:=d.rs (i:=4) rfl
  have r10 : RowO base 42 4 (TmG base (f + 1)) (iS h.length _) _ _ _:=rr.mono fun b hb=>⟨(d.rfr (i:=4) rfl rfl b hb).resolve_left fun h=>h,d.rlt (i:=4) rfl b hb⟩
  have hlc:=hBc.2.1
  have hg : TmG base (f + 2) (iS h.length _) _ (.mk 5 0 ⟨#[]⟩ (.mk kb nb sb lb :: lc)) (termV 5 0 ⟨#[]⟩ a9 (1 + lc.length)):=⟨by decide,by simp [maxLen]; omega,a9,by simp; omega,r10⟩
  by_cases c9 : (kc == (5 : Int)) = true
  ·rw [if_pos c9,c9]
   exact W.ret (.ok d.kb hg)
  ·have c9' : (kc == (5 : Int)) = false:=by simpa using c9
   rw [if_neg c9,c9']
   exact W.ret (.no d.kb)
 refine W.ite (fun c=>?_) (fun c7'=>?_)
 ·((with_reducible repeat refine W.a1 d ?_))
  obtain ⟨h4,e4,k4⟩:=mkPid_run (base:=base) (v:=A.pid) d.ge
  have d:=d.kN k4
  refine W.bs e4 ?_
  ((with_reducible repeat first|refine W.a1 d ?_|refine W.a2 ?_|refine W.a5 d fun hw d lw kw=>?_))
  have e15:=beq_iff_eq.1 c
  have em : madeF x A.regs A.pid next = some (.mk 3 A.pid ⟨#[]⟩ []):=by unfold madeF; simp [e15]
  rw [em]
  exact W.ret (.ok d.kb (tmL_G (by decide)))
 refine W.ite (fun c=>?_) (fun c8=>?_)
 ·obtain ⟨h4,e4,k4⟩:=mkPid_run (base:=base) (v:=next) d.ge
  have d:=d.kN k4
  refine W.bs e4 ?_
  ((with_reducible repeat first|refine W.a1 d ?_|refine W.a2 ?_|refine W.a5 d fun hw d lw kw=>?_))
  have e16:=beq_iff_eq.1 c
  have em : madeF x A.regs A.pid next = some (.mk 3 next ⟨#[]⟩ []):=by unfold madeF; simp [e16]
  rw [em]
  exact W.ret (.ok d.kb (tmL_G (by decide)))
 ·((with_reducible repeat refine W.a1 d ?_))
  have hop : x.op = 6∨x.op = 7∨x.op = 8∨x.op = 9:=by
   simp at c1 c2 c3 c4 c5 c6 c7' c8
   unfold makesF at hm
   have h10 : x.op≠10:=fun e=>by rw [e] at hm; exact absurd hm (by decide)
   have h11 : x.op≠11:=fun e=>by rw [e] at hm; exact absurd hm (by decide)
   have h12 : x.op≠12:=fun e=>by rw [e] at hm; exact absurd hm (by decide)
   have h13 : x.op≠13:=fun e=>by rw [e] at hm; exact absurd hm (by decide)
   have h17 : x.op≠17:=fun e=>by rw [e] at hm; exact absurd hm (by decide)
   have h18 : x.op≠18:=fun e=>by rw [e] at hm; exact absurd hm (by decide)
   have h19 : x.op≠19:=fun e=>by rw [e] at hm; exact absurd hm (by decide)
   omega
  refine W.wb (l9Part_run (next:=next) (d.rs (i:=1) rfl) hn hx' hxb hop hB (d.rlt (i:=1) rfl) d.ge) ?_
  rintro ⟨u,h5⟩ ⟨k,n,s,a',m,bo,rfl,k5,q5⟩
  generalize madeF x A.regs A.pid next = o at q5
  cases o with
  | none=>
   have d:=d.kN k5
   have q5 : bo = false:=q5
   subst q5
   ((try simp only [n1,n2,n3,n4,n5,n6] at d); (with_reducible repeat first|refine W.a1 d ?_|refine W.a2 ?_|refine W.a3 ?_|refine W.a5 d fun hw d lw kw=>?_))
   exact W.ret (.no d.kb)
  | some t=>
   obtain ⟨rfl,t5⟩:=q5
   have d:=d.callP (TmG.kp _ _) k5 t5
   ((try simp only [n1,n2,n3,n4,n5,n6] at d); (with_reducible repeat first|refine W.a1 d ?_|refine W.a2 ?_|refine W.a3 ?_|refine W.a5 d fun hw d lw kw=>?_))
   exact W.ret ⟨k,n,s,a',m,true,rfl,d.kb,rfl,d.out (TmG.mo _ _) (i:=2) rfl⟩
theorem W.il {β γ : Type} {Q : β→Prop} {k : γ→Option β} {q : γ} (w : Wp (k q) Q) : Wp (some (Sum.inl q : Sum γ β)) (Sum.elim (fun q=>Wp (k q) Q) Q):=W.inl w
theorem W.i6 {β : Type} {Q : β→Prop} {h : AH} {c : Option Addr} {l : List In} (hc : Sl h c (insR l)) {i : Nat} (hi : i < l.length) {f : Int→Int→Int→Int→Int→ByteArray→Option β} (w : Wp (f l[i].op l[i].a l[i].b l[i].c l[i].n l[i].s) Q) :
  Wp (c.bind fun ad=>((Am.cell h ad.block (ad.off + i * 6)).bind (getI .i64)).bind fun n1=>((Am.cell h ad.block (ad.off + i * 6 + 1)).bind (getI .i64)).bind fun n2=>((Am.cell h ad.block (ad.off + i * 6 + 1 + 1)).bind (getI .i64)).bind fun n3=>((Am.cell h ad.block (ad.off + i * 6 + 1 + 1 + 1)).bind (getI .i64)).bind fun n4=>((Am.cell h ad.block (ad.off + i * 6 + 1 + 1 + 1 + 1)).bind (getI .i64)).bind fun n5=>((Am.cell h ad.block (ad.off + i * 6 + 1 + 1 + 1 + 1 + 1)).bind getStr).bind fun s6=>f n1 n2 n3 n4 n5 s6) Q:=by
 obtain ⟨cd,rfl,w0,w1,w2,w3,w4,w5⟩:=In.get hc hi
 exact W.bs rfl (W.bI w0 (W.bI w1 (W.bI w2 (W.bI w3 (W.bI w4 (W.bT w5 w))))))
theorem AcG.form2 {base f : Nat} {S : Fp} {h : AH} {A : Ac} {cs : List Value} (x : AcG base f S h A cs) : ∃ a b g,cs = acV A.pid A.pc a A.regs.length b A.box.length g A.links.length:=by
 obtain ⟨a,b,g,S1,S2,S3,e,_⟩:=x
 exact ⟨a,b,g,e⟩
theorem StepQ.of {base F : Nat} {h0 h : AH} {D : Ds} {R : List Rs} {A : Ac} {cs : List Value} {S1 T : Fp} {AA : AH→Prop} {kd pid pc k n : Int} {s : ByteArray} {a : Option Addr} {m : Nat} {t : Tm} (d : Hs base NoB h0 h D R) {i : Nat} (e : R[i]? = some ⟨S1,true,AA⟩) (hA : AcG base F S1 h A cs) (ht : TmG base F T h t (termV k n s a m)) (hd : ∀ b,S1 b→¬ T b) (hT : ∀ b,T b→h0.length≤b∧b < h.length) : StepQ base F h0 (A,⟨kd,pid,pc,t⟩) (.tuple #[.agg cs.toArray,.agg (actV kd pid pc k n s a m).toArray],h):=
 ⟨cs,k,n,s,a,m,S1,T,rfl,hA,ht,hd,fun b hb=>⟨(d.rfr e rfl b hb).resolve_left fun h=>h,d.rlt e b hb⟩,hT,d.kb⟩
theorem l9Fault_run {base : Nat} {h : AH} {p c : Int} {a b g : Option Addr} {x y z : Nat} (hb : base≤h.length) : ∃ h',run (Et base) 226 [.agg (acV p c a x b y g z).toArray] h = some (.tuple #[.agg (acV p c a x b y g z).toArray,.agg (actV 7 0 0 2 0 flt none 0).toArray],h')∧KB NoB h h':=by
 refine Wp.run (P:=fun h'=>KB NoB h h') ?_
 refine W.of (fun r hx=>Am.r226 hx) ?_
 have d:=Hs.start hb
 ((refine W.nD d fun h1 d _ kh1=>?_); (refine W.nD d fun h2 d _ kh2=>?_); (refine W.nD d fun h3 d _ kh3=>?_); (with_reducible repeat refine W.a1 d ?_))
 obtain ⟨h4,e4,k4⟩:=mkAtom_run (base:=base) (s:=flt) d.ge
 have d:=d.kN k4
 refine W.bs e4 ?_
 ((with_reducible repeat first|refine W.a1 d ?_|refine W.a2 ?_|refine W.a5 d fun hw d lw kw=>?_|refine W.a6 d ?_))
 exact W.ret ⟨rfl,d.kb⟩
theorem l9Step_run {base f : Nat} {h : AH} {S : Fp} {l : List In} {c : Option Addr} {A : Ac} {cs : List Value} {next : Int} (hc : Sl h c (insR l)) (hBA : AcB (f + 1) A) (x : AcG base (f + 1) S h A cs) (hS : ∀ b,S b→b < h.length) (hb : base≤h.length) (hok : acOk (f + 1) l A = true) :
  Wp (run (Et base) 209 [.slice c l.length l.length,.agg cs.toArray,.int .i64 next] h) (StepQ base (f + 2) h (stepF (f + 2) (l.getD A.pc.toNat in0) A next)):=by
 obtain ⟨hcode,⟨pc0,pcl⟩,hR8,htR,hbx,htB⟩:=acOk_parts hok
 have hpc : A.pc.toNat < l.length:=by omega
 have hIn:=codeOk_bd hcode _ (List.getElem_mem hpc)
 have hsz:=(codeOk_spec hcode).2.2 _ (List.getElem_mem hpc)
 have el : l.getD A.pc.toNat in0 = l[A.pc.toNat]:=by simp [hpc]
 rw [el]
 have hBA':=hBA
 obtain ⟨m1,m2,m3,m4,m5⟩:=hBA
 have x':=x
 obtain ⟨a,b,g,S1,S2,S3,rfl,hr,_,_,_,s1,_⟩:=x
 have d:=((Hs.start hb).inp S _ x' (fun U h h' k hs x=>AcG.kp _ _ _ U h h' _ _ k hs x) hS (fun x hx=>nomatch hx) rfl).inp S1 _ hr (kpO (TmG.kp _ _)) (fun b hb=>hS b (s1 b hb)) (fun x hx=>nomatch hx) rfl
 refine W.of (fun r hx=>Am.r209 hx) ?_
 ((try simp only [n1,n2,n3,n4,n5,n6] at d); (refine W.nD d fun h1 d _ kh1=>?_); (refine W.nD d fun h2 d _ kh2=>?_); (refine W.nD d fun h3 d _ kh3=>?_); (with_reducible repeat first|refine W.a1 d ?_|refine W.a8 ?_))
 refine W.i6 (hc.keepN d.kb) hpc ?_
 generalize l[A.pc.toNat] = x at hIn hsz
 ((refine W.nD d fun h4 d _ kh4=>?_); (with_reducible repeat first|refine W.a1 d ?_|refine W.a5 d fun hw d lw kw=>?_))
 obtain ⟨csO,h5,e5,AO,k5⟩:=l9Copy_run (base:=base) hBA' (d.rs (i:=0) rfl).acR d.ge (d.rlt (i:=0) rfl)
 obtain ⟨a3,b3,g3,rfl⟩:=AO.form2
 have d:=d.callP (AcG.kp _ _) k5 AO
 refine W.bs e5 ?_
 have hIn':=hIn
 obtain ⟨⟨a0,a7⟩,⟨b0,b7⟩,⟨c0,c7⟩,hx4,hx6,hop0,hop1⟩:=hIn'
 have hal : x.a.toNat < A.regs.length:=by omega
 ((try simp only [n1,n2,n3,n4,n5,n6] at d); (with_reducible repeat refine W.a2 ?_); (refine W.nD d fun h6 d _ kh6=>?_); (with_reducible repeat first|refine W.a1 d ?_|refine W.a5 d fun hw d lw kw=>?_); (refine W.nD d fun h7 d _ kh7=>?_); (with_reducible repeat first|refine W.a1 d ?_|refine W.a5 d fun hw d lw kw=>?_|refine W.a8 ?_))
 refine W.o4 (d.rs (i:=1) rfl) hal fun ka na sa aa la eA tA rA hsa hla=>?_
 have hBa:=m4 _ (List.getElem_mem hal)
 rw [eA] at hBa
 have eA':=rg_eq (R:=A.regs) a0 hal
 rw [eA] at eA'
 obtain ⟨csR,h8,e8,t8,k8⟩:=l1CopyG_run (base:=base) (f + 1) _ S1 _ _ tA.tmR hBa d.ge (d.rlt (i:=1) rfl)
 obtain ⟨k',n',s',ar,m',rfl⟩:=t8.form
 obtain ⟨rfl,rfl,rfl,rfl⟩:=t8.eq
 have d:=d.callP (TmG.kp _ _) k8 t8
 have n8:=k8.1
 refine W.bs e8 ?_
 ((try simp only [n1,n2,n3,n4,n5,n6] at d); (with_reducible repeat refine W.a2 ?_); (refine W.nD d fun h9 d _ kh9=>?_); (with_reducible repeat first|refine W.a1 d ?_|refine W.a5 d fun hw d lw kw=>?_))
 refine W.ite (fun c=>?_) (fun c10=>?_)
 ·have e10:=beq_iff_eq.1 c
  have hxb7 : x.b≤7:=b7.resolve_left (by omega)
  have hbl : x.b.toNat < A.regs.length:=by omega
  have es : stepF (f + 2) x A next = (⟨A.pid,if (!sameB (f + 2) (rg A.regs x.a) (rg A.regs x.b)) = true then x.n else IntKind.wrap .i64 (A.pc + 1),A.regs,A.box,A.links⟩,⟨1,0,0,tmZ⟩):=by
   unfold stepF nextF actsF makesF jumpsF
   simp [e10]
  rw [es,eA',rg_eq b0 hbl]
  refine W.join ?_
  ((try simp only [n1,n2,n3,n4,n5,n6] at d); (with_reducible repeat first|refine W.a1 d ?_|refine W.a8 ?_))
  refine W.o4 (d.rs (i:=1) rfl) hbl fun kb nb sb ab lb eB tB rB hsb hlb=>?_
  rw [eB]
  have t3 : TmG base (f + 1) _ _ _ _:=d.rs (i:=3) rfl
  obtain ⟨h10,e11,k10⟩:=specSame_run (base:=base) (f + 2) (f + 1) _ _ _ _ _ _ _ (t3.tmR.le (by omega)) tB.tmR d.ge
  have d:=d.kN k10
  refine W.bs e11 ?_
  ((with_reducible repeat refine W.a2 ?_))
  refine W.ite (fun e=>?_) (fun e=>?_)
  ·rw [if_pos e]
   ((with_reducible repeat first|refine W.a1 d ?_|refine W.a5 d fun hw d lw kw=>?_))
   refine W.il ?_
   ((try simp only [n1,n2,n3,n4,n5,n6] at d); (with_reducible repeat first|refine W.a1 d ?_|refine W.a2 ?_|refine W.a5 d fun hw d lw kw=>?_|refine W.a6 d ?_))
   have hA : AcG base (f + 1) _ _ A _:=d.rs (i:=2) rfl
   exact W.ret (StepQ.of d (i:=2) rfl ((hA.setPc x.n).le (by omega)) (T:=fun _=>False) tmZ_G (fun _ _ h=>h) (fun _ h=>h.elim))
  ·rw [if_neg e]
   refine W.il ?_
   ((with_reducible repeat first|refine W.a1 d ?_|refine W.a2 ?_|refine W.a5 d fun hw d lw kw=>?_|refine W.a6 d ?_))
   have hA : AcG base (f + 1) _ _ A _:=d.rs (i:=2) rfl
   exact W.ret (StepQ.of d (i:=2) rfl ((hA.setPc (IntKind.wrap .i64 (A.pc + 1))).le (by omega)) (T:=fun _=>False) tmZ_G (fun _ _ h=>h) (fun _ h=>h.elim))
 refine W.ite (fun c=>?_) (fun c11=>?_)
 ·have e11:=beq_iff_eq.1 c
  have es : stepF (f + 2) x A next = (⟨A.pid,if (ka != x.b) = true then x.n else IntKind.wrap .i64 (A.pc + 1),A.regs,A.box,A.links⟩,⟨1,0,0,tmZ⟩):=by
   unfold stepF nextF actsF makesF jumpsF
   rw [eA']
   simp [e11,Tm.kd]
  rw [es]
  refine W.join ?_
  ((try simp only [n1,n2,n3,n4,n5,n6] at d); (with_reducible repeat refine W.a1 d ?_))
  refine W.ite (fun e=>?_) (fun e=>?_)
  ·rw [if_pos e]
   ((with_reducible repeat first|refine W.a1 d ?_|refine W.a5 d fun hw d lw kw=>?_))
   refine W.il ?_
   ((try simp only [n1,n2,n3,n4,n5,n6] at d); (with_reducible repeat first|refine W.a1 d ?_|refine W.a2 ?_|refine W.a5 d fun hw d lw kw=>?_|refine W.a6 d ?_))
   have hA : AcG base (f + 1) _ _ A _:=d.rs (i:=2) rfl
   exact W.ret (StepQ.of d (i:=2) rfl ((hA.setPc x.n).le (by omega)) (T:=fun _=>False) tmZ_G (fun _ _ h=>h) (fun _ h=>h.elim))
  ·rw [if_neg e]
   refine W.il ?_
   ((with_reducible repeat first|refine W.a1 d ?_|refine W.a2 ?_|refine W.a5 d fun hw d lw kw=>?_|refine W.a6 d ?_))
   have hA : AcG base (f + 1) _ _ A _:=d.rs (i:=2) rfl
   exact W.ret (StepQ.of d (i:=2) rfl ((hA.setPc (IntKind.wrap .i64 (A.pc + 1))).le (by omega)) (T:=fun _=>False) tmZ_G (fun _ _ h=>h) (fun _ h=>h.elim))
 refine W.ite (fun c=>?_) (fun c12=>?_)
 ·have e12:=beq_iff_eq.1 c
  have es : stepF (f + 2) x A next = (⟨A.pid,x.n,A.regs,A.box,A.links⟩,⟨1,0,0,tmZ⟩):=by
   unfold stepF nextF actsF makesF jumpsF
   simp [e12]
  rw [es]
  ((try simp only [n1,n2,n3,n4,n5,n6] at d); (with_reducible repeat first|refine W.a1 d ?_|refine W.a5 d fun hw d lw kw=>?_|refine W.a6 d ?_))
  have hA : AcG base (f + 1) _ _ A _:=d.rs (i:=2) rfl
  exact W.ret (StepQ.of d (i:=2) rfl ((hA.setPc x.n).le (by omega)) (T:=fun _=>False) tmZ_G (fun _ _ h=>h) (fun _ h=>h.elim))
 apply W.jb (decide (x.op = 13∨x.op = 18)) d
 ·refine W.ite (fun c=>?_) (fun c=>?_)
  ·exact W.lb rfl (by rw [c]; have:=beq_iff_eq.1 c; simp [this]) (KB.refl _ _)
  ·have c' : x.op≠13:=by simpa using c
   exact W.lb rfl (by congr 3; simp [c']; rfl) (KB.refl _ _)
 intro h10 d n10
 ((try simp only [n1,n2,n3,n4,n5,n6] at d); (with_reducible repeat refine W.a2 ?_))
 refine W.ite (fun c=>?_) (fun c=>?_)
 ·have c':=of_decide_eq_true c
  ((with_reducible repeat refine W.a1 d ?_))
  refine W.ite (fun e=>?_) (fun e=>?_)
  ·have es : stepF (f + 2) x A next = (A,fltA):=by
    unfold stepF actsF
    rw [eA']
    have e' : ¬ ka = 3:=by simpa using e
    rcases c' with c'|c' <;> simp [c',Tm.kd,e']
   rw [es]
   ((with_reducible repeat refine W.a1 d ?_))
   obtain ⟨csF,h11,e11,AF,k11⟩:=l9Copy_run (base:=base) hBA' (d.rs (i:=0) rfl).acR d.ge (d.rlt (i:=0) rfl)
   obtain ⟨a4,b4,g4,rfl⟩:=AF.form2
   have d:=d.callP (AcG.kp _ _) k11 AF
   refine W.bs e11 ?_
   ((try simp only [n1,n2,n3,n4,n5,n6] at d); (with_reducible repeat refine W.a2 ?_))
   obtain ⟨h12,e12,k12⟩:=l9Fault_run (base:=base) (p:=A.pid) (c:=A.pc) (a:=a4) (b:=b4) (g:=g4) (x:=A.regs.length) (y:=A.box.length) (z:=A.links.length) d.ge
   have d:=d.kN k12
   refine W.bs e12 ?_
   ((with_reducible repeat first|refine W.a1 d ?_|refine W.a2 ?_|refine W.a3 ?_|refine W.a5 d fun hw d lw kw=>?_))
   have hA : AcG base (f + 1) _ _ A _:=d.rs (i:=4) rfl
   exact W.ret (StepQ.of d (i:=4) rfl (hA.le (by omega)) (T:=fun _=>False) (atomG (by decide)) (fun _ _ h=>h) (fun _ h=>h.elim))
  ·have hka : ka = 3:=by simpa using e
   ((with_reducible repeat refine W.a1 d ?_))
   refine W.ite (fun c18=>?_) (fun c18=>?_)
   ·have e18:=beq_iff_eq.1 c18
    have es : stepF (f + 2) x A next = (⟨A.pid,IntKind.wrap .i64 (A.pc + 1),A.regs,A.box,A.links⟩,⟨6,na,0,tmZ⟩):=by
     unfold stepF nextF actsF makesF jumpsF
     rw [eA']
     simp [e18,Tm.kd,Tm.nm,hka]
    rw [es]
    ((with_reducible repeat first|refine W.a1 d ?_|refine W.a5 d fun hw d lw kw=>?_|refine W.a6 d ?_))
    have hA : AcG base (f + 1) _ _ A _:=d.rs (i:=2) rfl
    exact W.ret (StepQ.of d (i:=2) rfl ((hA.setPc (IntKind.wrap .i64 (A.pc + 1))).le (by omega)) (T:=fun _=>False) tmZ_G (fun _ _ h=>h) (fun _ h=>h.elim))
   ·have e13 : x.op = 13:=c'.resolve_right fun h=>c18 (by simp [h])
    have hxb7 : x.b≤7:=b7.resolve_left (by omega)
    have hbl : x.b.toNat < A.regs.length:=by omega
    ((with_reducible repeat first|refine W.a1 d ?_|refine W.a8 ?_))
    refine W.o4 (d.rs (i:=1) rfl) hbl fun kb nb sb ab lb eB tB rB hsb hlb=>?_
    have hBb:=m4 _ (List.getElem_mem hbl)
    rw [eB] at hBb
    have eB':=rg_eq (R:=A.regs) b0 hbl
    rw [eB] at eB'
    have es : stepF (f + 2) x A next = (⟨A.pid,IntKind.wrap .i64 (A.pc + 1),A.regs,A.box,A.links⟩,⟨3,na,0,.mk kb nb sb lb⟩):=by
     unfold stepF nextF actsF makesF jumpsF
     rw [eA',eB']
     simp [e13,Tm.kd,Tm.nm,hka]
    rw [es]
    obtain ⟨csB,h11,e11,t11,k11⟩:=l1CopyG_run (base:=base) (f + 1) _ S1 _ _ tB.tmR hBb d.ge (d.rlt (i:=1) rfl)
    obtain ⟨k',n',s',a',m',rfl⟩:=t11.form
    obtain ⟨rfl,rfl,rfl,rfl⟩:=t11.eq
    have n11:=k11.1
    have d:=d.callP (TmG.kp _ _) k11 t11
    refine W.bs e11 ?_
    ((try simp only [n1,n2,n3,n4,n5,n6] at d); (with_reducible repeat first|refine W.a1 d ?_|refine W.a2 ?_|refine W.a5 d fun hw d lw kw=>?_|refine W.a6 d ?_))
    have hA : AcG base (f + 1) _ _ A _:=d.rs (i:=2) rfl
    have hT : TmG base (f + 1) _ _ _ _:=d.rs (i:=4) rfl
    exact W.ret (StepQ.of d (i:=2) rfl ((hA.setPc (IntKind.wrap .i64 (A.pc + 1))).le (by omega)) (hT.le (by omega)) (fun b h1 h2=>by omega) (fun b hb=>⟨(d.rfr (i:=4) rfl rfl b hb).resolve_left fun h=>h,d.rlt (i:=4) rfl b hb⟩))
 have c' : ¬ (x.op = 13∨x.op = 18):=by simpa using c
 simp only [beq_iff_eq] at c10 c11 c12
 refine W.ite (fun c=>?_) (fun c17=>?_)
 ·have e17:=beq_iff_eq.1 c
  have es : stepF (f + 2) x A next = (⟨A.pid,IntKind.wrap .i64 (A.pc + 1),A.regs,A.box,A.links⟩,⟨5,0,0,.mk ka na sa la⟩):=by
   unfold stepF nextF actsF makesF jumpsF
   rw [eA']
   simp [e17]
  rw [es]
  ((with_reducible repeat first|refine W.a1 d ?_|refine W.a5 d fun hw d lw kw=>?_|refine W.a6 d ?_))
  have hA : AcG base (f + 1) _ _ A _:=d.rs (i:=2) rfl
  have hT : TmG base (f + 1) _ _ _ _:=d.rs (i:=3) rfl
  exact W.ret (StepQ.of d (i:=2) rfl ((hA.setPc (IntKind.wrap .i64 (A.pc + 1))).le (by omega)) (hT.le (by omega)) (fun b h1 h2=>by omega) (fun b hb=>⟨(d.rfr (i:=3) rfl rfl b hb).resolve_left fun h=>h,d.rlt (i:=3) rfl b hb⟩))
 refine W.ite (fun c=>?_) (fun c19=>?_)
 ·have e19:=beq_iff_eq.1 c
  have es : stepF (f + 2) x A next = (A,⟨7,0,0,.mk ka na sa la⟩):=by
   unfold stepF nextF actsF makesF jumpsF
   rw [eA']
   simp [e19]
  rw [es]
  ((with_reducible repeat first|refine W.a1 d ?_|refine W.a5 d fun hw d lw kw=>?_|refine W.a6 d ?_))
  have hA : AcG base (f + 1) _ _ A _:=d.rs (i:=2) rfl
  have hT : TmG base (f + 1) _ _ _ _:=d.rs (i:=3) rfl
  exact W.ret (StepQ.of d (i:=2) rfl (hA.le (by omega)) (hT.le (by omega)) (fun b h1 h2=>by omega) (fun b hb=>⟨(d.rfr (i:=3) rfl rfl b hb).resolve_left fun h=>h,d.rlt (i:=3) rfl b hb⟩))
 simp only [beq_iff_eq] at c17 c19
 refine W.ite (fun c=>?_) (fun c14=>?_)
 ·have e14:=beq_iff_eq.1 c
  ((with_reducible repeat refine W.a1 d ?_))
  refine W.ite (fun e=>?_) (fun e=>?_)
  ·have es : stepF (f + 2) x A next = (A,⟨2,0,0,tmZ⟩):=by
    unfold stepF actsF
    simp at e
    simp [e14,e]
   rw [es]
   ((with_reducible repeat refine W.a1 d ?_))
   obtain ⟨csF,h11,e11,AF,k11⟩:=l9Copy_run (base:=base) hBA' (d.rs (i:=0) rfl).acR d.ge (d.rlt (i:=0) rfl)
   obtain ⟨a4,b4,g4,rfl⟩:=AF.form2
   have d:=d.callP (AcG.kp _ _) k11 AF
   refine W.bs e11 ?_
   ((try simp only [n1,n2,n3,n4,n5,n6] at d); (with_reducible repeat first|refine W.a1 d ?_|refine W.a2 ?_|refine W.a5 d fun hw d lw kw=>?_))
   have hA : AcG base (f + 1) _ _ A _:=d.rs (i:=4) rfl
   exact W.ret (StepQ.of d (i:=4) rfl (hA.le (by omega)) (T:=fun _=>False) tmZ_G (fun _ _ h=>h) (fun _ h=>h.elim))
  ·have hbl : A.box.length≠0:=by simpa using e
   obtain ⟨t0,B0,eB⟩ : ∃ t0 B0,A.box = t0 :: B0:=by
    cases hbx : A.box with
    | nil=>rw [hbx] at hbl; exact absurd rfl hbl
    | cons t0 B0=>exact ⟨t0,B0,rfl⟩
   have es : stepF (f + 2) x A next = (⟨A.pid,IntKind.wrap .i64 (A.pc + 1),A.regs.set x.a.toNat t0,B0,A.links⟩,⟨1,0,0,tmZ⟩):=by
    unfold stepF nextF actsF makesF jumpsF
    simp [e14,eB]
    omega
   rw [es]
   have hA : AcG base (f + 1) _ _ A _:=d.rs (i:=2) rfl
   obtain ⟨aa,bb,gg,k',n',s',a',m',h11,ecs,g0,g1,g2,g3,w11,hok2,A11,k11,l11⟩:=hA.take hal eB
   injection ecs with c1 ecs
   injection ecs with c2 ecs
   injection ecs with c3 ecs
   injection ecs with c4 ecs
   injection ecs with c5 _
   injection c3 with c3 _ _; injection c4 with c4 _ _; injection c5 with c5 _ _
   subst c3; subst c4; subst c5
   ((with_reducible repeat first|refine W.a1 d ?_|refine W.bo ?_|refine W.a8 ?_))
   refine W.bI g0 (W.bI g1 (W.bT g2 (W.bS g3 ?_)))
   ((with_reducible repeat first|refine W.bo ?_|refine W.a8 ?_))
   have d:=d.updP (AcG.kp _ _) (Upd.at (i:=2) rfl) rfl k11 A11 (fun b hb=>.inl hb) (fun b hb=>.inl hb)
   refine W.bs w11 ?_
   ((try simp only [n1,n2,n3,n4,n5,n6] at d); (with_reducible repeat refine W.a1 d ?_))
   refine W.ifT ⟨by decide,by show (1 : Int)≤(A.box.length : Int); omega,Int.le_refl _,hok2 _⟩ ?_
   ((with_reducible repeat first|refine W.a1 d ?_|refine W.a5 d fun hw d lw kw=>?_|refine W.a6 d ?_))
   have e11 : Int.toNat (A.box.length : Int) - 1 = B0.length:=by rw [eB]; simp
   have hA2 : AcG base (f + 1) _ _ _ _:=d.rs (i:=2) rfl
   rw [show Int.toNat (A.box.length : Int) - Int.toNat 1 = B0.length from e11]
   exact W.ret (StepQ.of d (i:=2) rfl ((hA2.setPc (IntKind.wrap .i64 (A.pc + 1))).le (by omega)) (T:=fun _=>False) tmZ_G (fun _ _ h=>h) (fun _ h=>h.elim))
 simp only [beq_iff_eq] at c14
 have hmk : makesF x.op = true:=by
  unfold makesF
  simp [c10,c11,c12,c17,c19]
  omega
 ((with_reducible repeat refine W.a1 d ?_))
 refine W.wb (l9Make_run (f:=f) (next:=next) (d.rs (i:=0) rfl) hR8 hIn hmk c14 (by omega) m4 (d.rlt (i:=0) rfl) d.ge) ?_
 rintro ⟨u,h11⟩ ⟨km,nm,sm,am,mm,bo,rfl,k11,q11⟩
 have hst : stepF (f + 2) x A next = match (match madeF x A.regs A.pid next with|none=>none|some t=>if tOk (f + 2) t = true then some (A.regs.set x.a.toNat t,A.box) else none) with|none=>(A,fltA)|some (R,B)=>(⟨A.pid,IntKind.wrap .i64 (A.pc + 1),R,B,A.links⟩,(actsF x A.regs next).1):=by
  have h13 : x.op≠13:=fun h=>c' (.inl h)
  have h18 : x.op≠18:=fun h=>c' (.inr h)
  have ha2 : (actsF x A.regs next).2 = true:=by unfold actsF; simp [h13,h18,c17,c19]; split <;> rfl
  have hj : jumpsF (f + 2) x A.regs = false:=by unfold jumpsF; simp [c10,c11,c12]
  unfold stepF nextF
  (simp [ha2,c19,c14,hmk,hj]) <;> rfl
 rw [hst]
 cases hmF : madeF x A.regs A.pid next with
 | none=>
  rw [hmF] at q11
  have q11 : bo = false:=q11
  subst q11
  have d:=d.kN k11
  ((try simp only [n1,n2,n3,n4,n5,n6] at d); (with_reducible repeat first|refine W.a2 ?_|refine W.a3 ?_); (refine W.nD d fun h12 d _ kh12=>?_); (with_reducible repeat refine W.a5 d fun hw d lw kw=>?_))
  apply W.jb true d
  ·exact W.ifT rfl (W.lb rfl rfl (KB.refl _ _))
  intro h13 d n13
  ((try simp only [n1,n2,n3,n4,n5,n6] at d); (with_reducible repeat refine W.a2 ?_))
  refine W.ifT rfl ?_
  ((with_reducible repeat refine W.a1 d ?_))
  obtain ⟨csF,h14,e14,AF,k14⟩:=l9Copy_run (base:=base) hBA' (d.rs (i:=0) rfl).acR d.ge (d.rlt (i:=0) rfl)
  obtain ⟨a4,b4,g4,rfl⟩:=AF.form2
  have d:=d.callP (AcG.kp _ _) k14 AF
  refine W.bs e14 ?_
  ((try simp only [n1,n2,n3,n4,n5,n6] at d); (with_reducible repeat refine W.a2 ?_))
  obtain ⟨h15,e15,k15⟩:=l9Fault_run (base:=base) (p:=A.pid) (c:=A.pc) (a:=a4) (b:=b4) (g:=g4) (x:=A.regs.length) (y:=A.box.length) (z:=A.links.length) d.ge
  have d:=d.kN k15
  refine W.bs e15 ?_
  ((with_reducible repeat first|refine W.a1 d ?_|refine W.a2 ?_|refine W.a3 ?_|refine W.a5 d fun hw d lw kw=>?_))
  have hA : AcG base (f + 1) _ _ A _:=d.rs (i:=4) rfl
  exact W.ret (StepQ.of d (i:=4) rfl (hA.le (by omega)) (T:=fun _=>False) (atomG (by decide)) (fun _ _ h=>h) (fun _ h=>h.elim))
 | some t=>
  rw [hmF] at q11
  obtain ⟨rfl,t11⟩:=q11
  have n11 : h10.length≤h11.length:=k11.1
  have d:=d.callP (TmG.kp _ _) k11 t11
  ((try simp only [n1,n2,n3,n4,n5,n6] at d); (with_reducible repeat first|refine W.a2 ?_|refine W.a3 ?_); (refine W.nD d fun h12 d _ kh12=>?_); (with_reducible repeat refine W.a5 d fun hw d lw kw=>?_))
  apply W.jb (!tOk (f + 2) t) d
  ·refine W.ifF (by decide) ?_
   ((try simp only [n1,n2,n3,n4,n5,n6] at d); (with_reducible repeat refine W.a1 d ?_))
   have tt : TmG base (f + 2) _ _ t _:=d.rs (i:=4) rfl
   obtain ⟨h13,e13,k13⟩:=specTermOk_run (base:=base) tt.tmR d.ge
   refine W.bs e13 ?_
   ((with_reducible repeat refine W.a2 ?_))
   exact W.lb rfl rfl k13
  intro h13 d n13
  ((try simp only [n1,n2,n3,n4,n5,n6] at d); (with_reducible repeat refine W.a2 ?_))
  refine W.ite (fun e=>?_) (fun e=>?_)
  ·have e' : tOk (f + 2) t = false:=by simpa using e
   simp only [e']
   ((with_reducible repeat refine W.a1 d ?_))
   obtain ⟨csF,h14,e14,AF,k14⟩:=l9Copy_run (base:=base) hBA' (d.rs (i:=0) rfl).acR d.ge (d.rlt (i:=0) rfl)
   obtain ⟨a4,b4,g4,rfl⟩:=AF.form2
   have d:=d.callP (AcG.kp _ _) k14 AF
   refine W.bs e14 ?_
   ((try simp only [n1,n2,n3,n4,n5,n6] at d); (with_reducible repeat refine W.a2 ?_))
   obtain ⟨h15,e15,k15⟩:=l9Fault_run (base:=base) (p:=A.pid) (c:=A.pc) (a:=a4) (b:=b4) (g:=g4) (x:=A.regs.length) (y:=A.box.length) (z:=A.links.length) d.ge
   have d:=d.kN k15
   refine W.bs e15 ?_
   ((with_reducible repeat first|refine W.a1 d ?_|refine W.a2 ?_|refine W.a3 ?_|refine W.a5 d fun hw d lw kw=>?_))
   have hA : AcG base (f + 1) _ _ A _:=d.rs (i:=5) rfl
   exact W.ret (StepQ.of d (i:=5) rfl (hA.le (by omega)) (T:=fun _=>False) (atomG (by decide)) (fun _ _ h=>h) (fun _ h=>h.elim))
  ·have e' : tOk (f + 2) t = true:=by simpa using e
   simp only [e',if_true]
   refine W.join ?_
   ((with_reducible repeat refine W.a1 d ?_))
   refine W.ite (fun c16=>?_) (fun c16=>?_)
   ·have e16:=beq_iff_eq.1 c16
    have hxb7 : x.b≤7:=b7.resolve_left (by omega)
    have hbl : x.b.toNat < A.regs.length:=by omega
    ((with_reducible repeat first|refine W.a1 d ?_|refine W.a8 ?_))
    refine W.o4 (d.rs (i:=1) rfl) hbl fun kb nb sb ab lb eB tB rB hsb hlb=>?_
    have hBb:=m4 _ (List.getElem_mem hbl)
    rw [eB] at hBb
    have eB':=rg_eq (R:=A.regs) b0 hbl
    rw [eB] at eB'
    have ea : (actsF x A.regs next).1 = ⟨4,next,x.n,.mk kb nb sb lb⟩:=by
     unfold actsF
     rw [eB']
     simp [e16]
    rw [ea]
    obtain ⟨csB,h14,e14,t14,k14⟩:=l1CopyG_run (base:=base) (f + 1) _ S1 _ _ tB.tmR hBb d.ge (d.rlt (i:=1) rfl)
    obtain ⟨k',n',s',a',m',rfl⟩:=t14.form
    obtain ⟨rfl,rfl,rfl,rfl⟩:=t14.eq
    have n14:=k14.1
    have d:=d.callP (TmG.kp _ _) k14 t14
    refine W.bs e14 ?_
    ((try simp only [n1,n2,n3,n4,n5,n6] at d); (with_reducible repeat first|refine W.a2 ?_|refine W.a5 d fun hw d lw kw=>?_|refine W.a6 d ?_))
    refine W.il ?_
    ((try simp only [n1,n2,n3,n4,n5,n6] at d); (with_reducible repeat first|refine W.a1 d ?_|refine W.a2 ?_|refine W.a8 ?_))
    have hA : AcG base (f + 1) _ _ A _:=d.rs (i:=2) rfl
    have tt : TmG base (f + 2) _ _ t _:=d.rs (i:=4) rfl
    obtain ⟨aa,h15,ec,w15,A15,k15,l15⟩:=(hA.le (show f + 1≤f + 2 by omega)).setReg hal tt (fun b h1 h2=>by omega)
    injection ec with ec
    injection ec with ec _ _
    subst ec
    ((with_reducible repeat refine W.bo ?_))
    have d:=d.joinP (AcG.kp _ _) (Upd.at (i:=4) rfl) (Upd.at (i:=2) rfl) rfl rfl k15 A15 (fun b hb=>.inl hb) (fun b hb=>hb.elim .inl fun h=>.inr (.inl h))
    refine W.bs w15 ?_
    ((try simp only [n1,n2,n3,n4,n5,n6] at d); (with_reducible repeat first|refine W.a1 d ?_|refine W.a5 d fun hw d lw kw=>?_|refine W.a6 d ?_))
    have hA : AcG base (f + 2) _ _ _ _:=d.rs (i:=2) rfl
    have hT : TmG base (f + 1) _ _ _ _:=d.rs (i:=5) rfl
    exact W.ret (StepQ.of d (i:=2) rfl (hA.setPc (IntKind.wrap .i64 (A.pc + 1))) (hT.le (by omega)) (fun b h1 h2=>by omega) (fun b hb=>⟨(d.rfr (i:=5) rfl rfl b hb).resolve_left fun h=>h,d.rlt (i:=5) rfl b hb⟩))
   ·refine W.il ?_
    have h13 : x.op≠13:=fun h=>c' (.inl h)
    have h18 : x.op≠18:=fun h=>c' (.inr h)
    have c16' : x.op≠16:=by simpa using c16
    have ea : (actsF x A.regs next).1 = ⟨1,0,0,tmZ⟩:=by unfold actsF; simp [h13,h18,c17,c19,c16']
    rw [ea]
    ((with_reducible repeat first|refine W.a1 d ?_|refine W.a2 ?_|refine W.a8 ?_))
    have hA : AcG base (f + 1) _ _ A _:=d.rs (i:=2) rfl
    have tt : TmG base (f + 2) _ _ t _:=d.rs (i:=4) rfl
    obtain ⟨aa,h15,ec,w15,A15,k15,l15⟩:=(hA.le (show f + 1≤f + 2 by omega)).setReg hal tt (fun b h1 h2=>by omega)
    injection ec with ec
    injection ec with ec _ _
    subst ec
    ((with_reducible repeat refine W.bo ?_))
    have d:=d.joinP (AcG.kp _ _) (Upd.at (i:=4) rfl) (Upd.at (i:=2) rfl) rfl rfl k15 A15 (fun b hb=>.inl hb) (fun b hb=>hb.elim .inl fun h=>.inr (.inl h))
    refine W.bs w15 ?_
    ((try simp only [n1,n2,n3,n4,n5,n6] at d); (with_reducible repeat first|refine W.a1 d ?_|refine W.a5 d fun hw d lw kw=>?_|refine W.a6 d ?_))
    have hA : AcG base (f + 2) _ _ _ _:=d.rs (i:=2) rfl
    exact W.ret (StepQ.of d (i:=2) rfl (hA.setPc (IntKind.wrap .i64 (A.pc + 1))) (T:=fun _=>False) tmZ_G (fun _ _ h=>h) (fun _ h=>h.elim))
abbrev rIn (p : Fp) (A : AH→Prop) : Rs:=⟨p,false,A⟩
abbrev rSs (base f : Nat) (S : Fp) (l : List Sd) (a : Option Addr) : Rs:=⟨S,true,fun y=>RowO base 140 6 (SdD f) S y l a⟩
abbrev rAs (base f : Nat) (S : Fp) (l : List Ac) (a : Option Addr) : Rs:=⟨S,true,fun y=>RowO base 54 5 (AcG base f) S y l a⟩
theorem Hs.appD {base t sz bytes nb n m : Nat} {V : Fp} {h0 h : AH} {D : Ds} {R : List Rs} {olds new : List Value} {src : Option (List Value)} (d : Hs base V h0 h ((nb,t,olds) :: D) R) (hn : olds.length = n * sz) (hsz : 0 < sz) (hs : src = some new) (h1 : (n + m) * bytes≤140737488355328) (h2 : n + m≤9223372036854775807) (hm : new.length = m * sz) :
  ∃ a' h' S',Am.app base h t sz bytes (at0 nb) n src m = some (.slice a' (n + m) (n + m),h')∧Hs base V h0 h' D (R++[⟨S',true,fun y=>Own base t y a' (olds++new)⟩])∧(∀ x,blk a' x→S' x)∧KB (· = nb) h h'∧(∀ x,S' x→x = nb∨h.length≤x):=by
 have d':=d.unbox .here
 obtain ⟨a',h',e,o,k,q⟩:=Own.app (x:=d.ol (.head _)) (bytes:=bytes) (m:=m) hn hsz hs d.ge h1 h2 hm
 have k : KB (· = nb) h h':=k.mono fun i _ hi=>blk_at0.1 hi
 have n0:=d.kb.1
 have d2:=d'.upd (r:=⟨(· = nb),true,fun y=>Own base t y (at0 nb) olds⟩) (r':=⟨blk a',true,fun y=>Own base t y a' (olds++new)⟩) (R':=R++[⟨blk a',true,fun y=>Own base t y a' (olds++new)⟩]) (by
  clear d d' k q
  induction R with
  | nil=>exact .here
  | cons x R ih=>exact .there ih) rfl rfl k (fun b hb=>.inl hb) o (fun U y y' ky hs x=>x.keep ky hs) (fun b hb=>by
   rcases q with ⟨_,e,_⟩|q
   ·have hb : blk a' b:=hb
    rw [e,blk_at0] at hb
    exact .inl hb
   ·have e:=q b hb
    have:=(o.lt hb).2
    exact .inr ⟨by omega,this⟩)
 refine ⟨a',h',_,e,d2,fun _ h=>h,k,fun b hb=>?_⟩
 have hb : blk a' b:=hb
 rcases q with ⟨_,e,_⟩|q
 ·rw [e,blk_at0] at hb; exact .inl hb
 ·have:=q b hb; exact .inr (by omega)
section
theorem rawAt_keep {U : Fp} {h h' : AH} {a : Option Addr} {n : Nat} {vs : List Value} (k : KB U h h') (hU : ∀ b,blk a b→¬ U b) (e : rawAt h a n = some vs) : rawAt h' a n = some vs:=by
 unfold rawAt at e ⊢
 split at e
 ·rename_i h0; rw [if_pos h0]; exact e
 ·rename_i h0
  rw [if_neg h0]
  cases a with
  | none=>cases e
  | some ad=>
   simp only [Option.bind_some] at e ⊢
   cases hg : hget h ad.block with
   | none=>rw [hg] at e; cases e
   | some kk=>
    rw [k.2 _ (hget_lt hg) (hU _ ⟨ad,rfl,rfl⟩),hg]
    rw [hg] at e
    exact e
theorem rawAt_part {h : AH} {a : Option Addr} {vs : List Value} {n m : Nat} (hs : Sl h a vs) (hl : vs.all leaf = true) (hnm : n + m≤vs.length) : rawAt h (shiftA a n) m = some ((vs.drop n).take m):=by
 have h1:=hs.part hnm
 have h2 : ((vs.drop n).take m).all leaf = true:=by
  rw [List.all_eq_true] at hl ⊢
  exact fun v hv=>hl v (List.mem_of_mem_drop (List.mem_of_mem_take hv))
 have:=h1.raw h2
 rw [show ((vs.drop n).take m).length = m from by simp; omega] at this
 exact this
namespace Hs
variable {base : Nat} {W : Fp} {h0 h : AH} {D : Ds} {R : List Rs}
theorem appO {t w bytes i n m : Nat} {S : Fp} {a : Option Addr} {olds new : List Value} {src : Option (List Value)} (d : Hs base W h0 h D R) (ei : R[i]? = some ⟨S,true,fun x=>Own base t x a olds⟩) (hS : ∀ b,blk a b→S b) (hs : src = some new) (hw : 0 < w) (hn : olds.length = n * w) (hm : new.length = m * w) (h1 : (n + m) * bytes≤140737488355328) (h2 : n + m≤9223372036854775807) :
  ∃ a' h',Am.app base h t w bytes a n src m = some (.slice a' (n + m) (n + m),h')∧Hs base W h0 h' D (R.set i ⟨blk a',true,fun x=>Own base t x a' (olds++new)⟩)∧(∀ b,blk a' b→S b∨b = h.length)∧KB S h h':=by
 obtain ⟨a',h',e,o,k,q⟩:=Own.app (x:=d.rs ei) (bytes:=bytes) (m:=m) hn hw hs d.ge h1 h2 hm
 have k : KB S h h':=k.mono fun b _ hb=>hS b hb
 have q' : ∀ b,blk a' b→S b∨b = h.length:=fun b hb=>by
  rcases q with ⟨_,e,_⟩|q
  ·exact .inl (hS b (e ▸ hb))
  ·exact .inr (q b hb)
 exact ⟨a',h',e,d.upd (Upd.at ei) rfl rfl k (fun b hb=>.inl hb) o (fun U y y' ky hs x=>x.keep ky hs) (fun b hb=>(q' b hb).imp id fun e=>⟨by omega,(o.lt hb).2⟩),q',k⟩
theorem cut {α : Type} {t w i j q : Nat} {P : Fp→AH→α→List Value→Prop} {S S2 : Fp} {l : List α} {a a' : Option Addr} {vs : List Value} (d : Hs base W h0 h D R) (kp : Kp P) (ei : R[i]? = some ⟨S,true,fun x=>RowO base t w P S x l a⟩) (hq : q < l.length) (hlf : ∀ S h x cs,P S h x cs→cs.all leaf = true) (hw : 0 < w) (hraw : rawAt h a (l.length * w) = some vs) (hij : i≠j) (ej : R[j]? = some ⟨S2,true,fun x=>Own base t x a' (vs.take (q * w)++vs.drop ((q + 1) * w))⟩) (hS2 : ∀ b,blk a' b→S2 b) :
  ∃ C S',Hs base W h0 h D ((R.set i ⟨S',true,fun x=>RowO base t w P S' x (l.take q++l.drop (q + 1)) a'⟩).set j ⟨C,true,fun x=>P C x l[q] (chunk w q vs)⟩)∧(∀ b,C b→S b)∧(∀ b,S' b→S b∨S2 b):=by
 have row : RowO base t w P S h l a:=d.rs ei
 obtain ⟨vs',T,er,ev,hsl,hT,hb,ch⟩:=row.raws hlf hw
 rw [er] at hraw
 injection hraw with hraw
 subst hraw
 obtain ⟨C,hC,hCT,chd⟩:=ch.del ev hq
 have o : Own base t h a' (vs'.take (q * w)++vs'.drop ((q + 1) * w)):=d.rs ej
 have dj : ∀ b,S2 b→¬ S b:=by
  obtain ⟨hi,r1⟩:=List.getElem?_eq_some_iff.1 ei
  obtain ⟨hj,r2⟩:=List.getElem?_eq_some_iff.1 ej
  rcases Nat.lt_or_gt_of_ne hij with hlt|hgt
  ·have:=List.pairwise_iff_getElem.1 d.dj i j hi hj hlt
   rw [r1,r2] at this
   exact fun b h1 h2=>this rfl b h2 h1
  ·have:=List.pairwise_iff_getElem.1 d.dj j i hj hi hgt
   rw [r1,r2] at this
   exact fun b h1 h2=>this rfl b h1 h2
 have hle:=mul_le' (w:=w) hq
 have hl1 : (vs'.take (q * w)++vs'.drop ((q + 1) * w)).length = (l.take q++l.drop (q + 1)).length * w:=by
  have e1 : (l.length - (q + 1)) * w = l.length * w - (q * w + w):=by rw [Nat.sub_mul,Nat.add_mul,Nat.one_mul]
  have e2 : (q + 1) * w = q * w + w:=by rw [Nat.add_mul,Nat.one_mul]
  rw [List.length_append,List.length_append,List.length_take,List.length_drop,List.length_take,List.length_drop,Nat.min_eq_left (by omega),Nat.min_eq_left (by omega),ev,e2]
  have e3:=Nat.add_mul q (l.length - (q + 1)) w
  omega
 refine ⟨C,fun b=>S2 b∨(T b∧¬ C b),?_,fun b hb=>hT b (hCT b hb),fun b hb=>hb.elim .inr fun h=>.inl (hT b h.1)⟩
 have row' : RowO base t w P (fun b=>S2 b∨(T b∧¬ C b)) h (l.take q++l.drop (q + 1)) a':=
  ⟨_,fun b=>T b∧¬ C b,o,hl1,fun b hb=>⟨.inl (hS2 b hb),fun hh=>dj b (hS2 b hb) (hT b hh.1)⟩,fun b hb=>.inr hb,chd⟩
 obtain ⟨i1,r1⟩:=List.getElem?_eq_some_iff.1 ei
 obtain ⟨j1,r2⟩:=List.getElem?_eq_some_iff.1 ej
 have ri:=d.res _ (List.mem_of_getElem? ei)
 have rj:=d.res _ (List.mem_of_getElem? ej)
 have get : ∀ k (hk : k < ((R.set i ⟨fun b=>S2 b∨(T b∧¬ C b),true,fun x=>RowO base t w P (fun b=>S2 b∨(T b∧¬ C b)) x (l.take q++l.drop (q + 1)) a'⟩).set j ⟨C,true,fun x=>P C x l[q] (chunk w q vs')⟩).length),((R.set i ⟨fun b=>S2 b∨(T b∧¬ C b),true,fun x=>RowO base t w P (fun b=>S2 b∨(T b∧¬ C b)) x (l.take q++l.drop (q + 1)) a'⟩).set j ⟨C,true,fun x=>P C x l[q] (chunk w q vs')⟩)[k] = if k = j then ⟨C,true,fun x=>P C x l[q] (chunk w q vs')⟩ else if k = i then ⟨fun b=>S2 b∨(T b∧¬ C b),true,fun x=>RowO base t w P (fun b=>S2 b∨(T b∧¬ C b)) x (l.take q++l.drop (q + 1)) a'⟩ else R[k]'(by simpa using hk):=by
  intro k hk
  rw [List.getElem_set]
  by_cases e : j = k
  ·subst e; simp
  ·rw [if_neg e,if_neg (by omega),List.getElem_set]
   by_cases e2 : i = k
   ·subst e2; simp
   ·rw [if_neg e2,if_neg (by omega)]
 refine ⟨d.ge,d.kb,d.own,d.nd,fun r hr=>?_,?_⟩
 ·obtain ⟨k,hk,rfl⟩:=List.mem_iff_getElem.1 hr
  rw [get k hk]
  split
  ·exact ⟨hC,fun U y y' ky hs x=>kp _ U y y' _ _ ky hs x,fun b hb=>ri.2.2.1 b (hT b (hCT b hb)),fun _ b hb=>ri.2.2.2.1 rfl b (hT b (hCT b hb)),fun x hx hb=>ri.2.2.2.2 x hx (hT _ (hCT _ hb))⟩
  ·split
   ·refine ⟨row',fun U y y' ky hs x=>x.keep kp ky hs,fun b hb=>?_,fun _ b hb=>?_,fun x hx hb=>?_⟩
    ·rcases hb with hb|hb
     ·exact rj.2.2.1 b hb
     ·exact ri.2.2.1 b (hT b hb.1)
    ·rcases hb with hb|hb
     ·exact rj.2.2.2.1 rfl b hb
     ·exact ri.2.2.2.1 rfl b (hT b hb.1)
    ·rcases hb with hb|hb
     ·exact rj.2.2.2.2 x hx hb
     ·exact ri.2.2.2.2 x hx (hT _ hb.1)
   ·exact d.res _ (List.getElem_mem _)
 ·rw [List.pairwise_iff_getElem]
  intro k1 k2 hk1 hk2 hlt
  have old : ∀ (k : Nat) (hk : k < R.length) (b : Nat),k≠i→k≠j→(R[k]'hk).S b→¬ S b∧¬ S2 b:=by
   intro k hk b h1 h2 hb
   refine ⟨fun hs=>?_,fun hs=>?_⟩
   ·rcases Nat.lt_or_gt_of_ne h1 with hh|hh
    ·have:=List.pairwise_iff_getElem.1 d.dj k i hk i1 hh
     rw [r1] at this
     exact this (by simp) b hb hs
    ·have:=List.pairwise_iff_getElem.1 d.dj i k i1 hk hh
     rw [r1] at this
     exact this (by simp) b hs hb
   ·rcases Nat.lt_or_gt_of_ne h2 with hh|hh
    ·have:=List.pairwise_iff_getElem.1 d.dj k j hk j1 hh
     rw [r2] at this
     exact this (by simp) b hb hs
    ·have:=List.pairwise_iff_getElem.1 d.dj j k j1 hk hh
     rw [r2] at this
     exact this (by simp) b hs hb
  rw [get k1 hk1,get k2 hk2]
  intro e b hb1 hb2
  by_cases c1 : k1 = j
  ·rw [if_pos c1] at hb1
   have hs : S b:=hT b (hCT b hb1)
   rw [if_neg (by omega)] at hb2
   by_cases c2 : k2 = i
   ·rw [if_pos c2] at hb2
    rcases hb2 with hb2|hb2
    ·exact dj b hb2 hs
    ·exact hb2.2 hb1
   ·rw [if_neg c2] at hb2
    exact (old k2 _ b c2 (by omega) hb2).1 hs
  ·rw [if_neg c1] at hb1
   by_cases c2 : k1 = i
   ·rw [if_pos c2] at hb1
    have hs : S b∨S2 b:=hb1.elim .inr fun h=>.inl (hT b h.1)
    by_cases c3 : k2 = j
    ·rw [if_pos c3] at hb2
     rcases hb1 with hb1|hb1
     ·exact dj b hb1 (hT b (hCT b hb2))
     ·exact hb1.2 hb2
    ·rw [if_neg c3,if_neg (by omega)] at hb2
     have:=old k2 _ b (by omega) c3 hb2
     exact hs.elim this.1 this.2
   ·rw [if_neg c2] at hb1
    have o1:=old k1 _ b c2 c1 hb1
    by_cases c3 : k2 = j
    ·rw [if_pos c3] at hb2
     exact o1.1 (hT b (hCT b hb2))
    ·rw [if_neg c3] at hb2
     by_cases c4 : k2 = i
     ·rw [if_pos c4] at hb2
      exact hb2.elim o1.2 fun h=>o1.1 (hT b h.1)
     ·rw [if_neg c4] at hb2
      rw [if_neg c1,if_neg c2,if_neg c3,if_neg c4] at e
      exact List.pairwise_iff_getElem.1 d.dj k1 k2 (by simpa using hk1) (by simpa using hk2) hlt e b hb1 hb2
end Hs
end
def dropI (v : Int) (l : List Int) : List Int:=l.filter fun n=>n != v
theorem dropI_snoc {v x : Int} {l : List Int} : dropI v (l++[x]) = if (x != v) = true then dropI v l++[x] else dropI v l:=by
 unfold dropI
 rw [List.filter_append]
 by_cases c : (x != v) = true
 ·rw [if_pos c]; simp [c]
 ·rw [if_neg c]; simp [c]
theorem dropI_len {v : Int} {l : List Int} : (dropI v l).length≤l.length:=List.length_filter_le _ _
theorem W.ri {β : Type} {Q : β→Prop} {h : AH} {zs : List Int} {a : Option Addr} (hs : Sl h a (iv .i64 zs)) {i : Nat} (hi : i < zs.length) {f : Int→Option β} (w : Wp (f zs[i]) Q) : Wp (a.bind fun ad=>((Am.cell h ad.block (ad.off + i * 1)).bind (getI .i64)).bind f) Q:=by
 obtain ⟨ad,rfl,g⟩:=int_get hs hi
 exact W.bs rfl (W.bI g w)
theorem l11Drop_loop {base : Nat} {v : Int} {zs : List Int} {a : Option Addr} (hl : zs.length≤1048576 * 4) {h0 : AH} (hs : Sl h0 a (iv .i64 zs)) : ∀ (n i : Nat) (h : AH) (ao : Option Addr) (S : Fp),i + n = zs.length→Hs base NoB h0 h [] [⟨S,true,fun y=>Own base 3 y ao (iv .i64 (dropI v (zs.take i)))⟩]→(∀ b,blk ao b→S b) →
  Wp (loopL (B206_0 base) [some (.slice a zs.length zs.length),some (.int .i64 v),some (.slice ao (dropI v (zs.take i)).length (dropI v (zs.take i)).length),some (.int .i64 (i : Int))] h) fun o=>∃ a' S',o.1 = 2∧o.2.1 = [some (.slice a' (dropI v zs).length (dropI v zs).length)]∧Hs base NoB h0 o.2.2 [] [⟨S',true,fun y=>Own base 3 y a' (iv .i64 (dropI v zs))⟩]∧(∀ b,blk a' b→S' b):=by
 intro n
 induction n with
 | zero=>
  intro i h ao S hi d hS
  have hi' : i = zs.length:=by omega
  subst hi'
  rw [List.take_of_length_le (Nat.le_refl _)] at d ⊢
  refine ⟨_,loop_off (by decide) (s':=[some (.slice ao (dropI v zs).length (dropI v zs).length)]) (h':=h) (e:=2) ?_,ao,S,rfl,rfl,d,hS⟩
  rw [B206_0_eq]
  exact Am.ifF (by simp) rfl
 | succ n ih=>
  intro i h ao S hi d hS
  have hlt : i < zs.length:=by omega
  have hsn : dropI v (zs.take (i + 1)) = if (zs[i] != v) = true then dropI v (zs.take i)++[zs[i]] else dropI v (zs.take i):=by rw [take_snoc hlt,dropI_snoc]
  suffices w : Wp (B206_0 base [some (.slice a zs.length zs.length),some (.int .i64 v),some (.slice ao (dropI v (zs.take i)).length (dropI v (zs.take i)).length),some (.int .i64 (i : Int))] h) fun o=>∃ a' S',o.1 = 0∧o.2.1 = [some (.slice a zs.length zs.length),some (.int .i64 v),some (.slice a' (dropI v (zs.take (i + 1))).length (dropI v (zs.take (i + 1))).length),some (.int .i64 ((i + 1 : Nat) : Int))]∧Hs base NoB h0 o.2.2 [] [⟨S',true,fun y=>Own base 3 y a' (iv .i64 (dropI v (zs.take (i + 1))))⟩]∧(∀ b,blk a' b→S' b) by
   obtain ⟨⟨o1,o2,h'⟩,e,a',S',y1,y2,d',hS'⟩:=w
   simp only at y1 y2 d'
   subst y1; subst y2
   obtain ⟨o,eo,q⟩:=ih (i + 1) h' a' S' (by omega) d' hS'
   exact ⟨o,loop_on e eo,q⟩
  have hlen : (dropI v (zs.take i)).length≤zs.length:=Nat.le_trans dropI_len (by simp; omega)
  rw [B206_0_eq]
  refine W.ifT (decide_eq_true (by omega)) (W.join (W.ifT ⟨by omega,by omega⟩ ?_))
  rw [Int.toNat_natCast]
  refine W.ri (hs.keepN d.kb) hlt (W.ite (fun c=>?_) (fun c=>?_))
  ·refine W.ifT ⟨by omega,by omega⟩ (W.ri (hs.keepN d.kb) hlt ?_)
   ((refine W.nD d fun h1 d _ kh1=>?_))
   obtain ⟨a2,h2,e2,d,q2,k2,_⟩:=d.app1O (w:=1) (i:=0) (n:=(dropI v (zs.take i)).length) (bytes:=8) rfl hS (.head _) rfl (by decide) (by simp) rfl (by omega) (by omega)
   refine W.bs e2 ?_
   ((try simp only [n1,n2,n3,n4,n5,n6] at d); (with_reducible repeat refine W.a2 ?_))
   refine W.il ?_
   ((with_reducible repeat refine W.a2 ?_))
   rw [w64i (n:=(i : Int) + 1) (by omega) (by omega)]
   rw [hsn,if_pos c]
   refine W.ret ⟨a2,_,rfl,by simp,?_,fun _ h=>h⟩
   have:=d.tl
   rw [show [vI zs[i]] = iv .i64 [zs[i]] from rfl,iv_append] at this
   exact this
  ·refine W.il ?_
   ((with_reducible repeat refine W.a2 ?_))
   rw [w64i (n:=(i : Int) + 1) (by omega) (by omega)]
   rw [hsn,if_neg c]
   exact W.ret ⟨ao,S,rfl,rfl,d,hS⟩
theorem l11Drop_run {base : Nat} {v : Int} {zs : List Int} {a : Option Addr} {h : AH} (hl : zs.length≤1048576 * 4) (hs : Sl h a (iv .i64 zs)) (hb : base≤h.length) :
  ∃ a' h',run (Et base) 206 [.slice a zs.length zs.length,.int .i64 v] h = some (.slice a' (dropI v zs).length (dropI v zs).length,h')∧Own base 3 h' a' (iv .i64 (dropI v zs))∧KB NoB h h'∧(∀ b,blk a' b→h.length≤b):=by
 suffices w : Wp (run (Et base) 206 [.slice a zs.length zs.length,.int .i64 v] h) fun o=>∃ a',o.1 = .slice a' (dropI v zs).length (dropI v zs).length∧Own base 3 o.2 a' (iv .i64 (dropI v zs))∧KB NoB h o.2∧(∀ b,blk a' b→h.length≤b) by
  obtain ⟨⟨u,h'⟩,e,a',rfl,q⟩:=w
  exact ⟨a',h',e,q⟩
 have d:=Hs.start hb
 refine W.of (fun r hx=>Am.r206 hx) ?_
 ((refine W.nD d fun h1 d _ kh1=>?_))
 have d:=d.unbox .here
 refine W.wb (l11Drop_loop (base:=base) (v:=v) hl hs zs.length 0 h1 (at0 h.length) _ (by omega) d fun b hb=>blk_at0.1 hb) ?_
 rintro ⟨o1,o2,h2⟩ ⟨a',S',y1,y2,d,hS⟩
 simp only at y1 y2 d
 subst y1; subst y2
 refine W.ifT rfl ?_
 ((with_reducible repeat refine W.a2 ?_))
 exact W.ret ⟨a',rfl,d.rs (i:=0) rfl,d.kb,fun b hb=>(d.rfr (i:=0) rfl rfl b (hS b hb)).resolve_left fun h=>h⟩
def toldB (pid : Int) (acs : List Ac) : Bool:=if decide (atL pid 0 acs < 0) = true then true else decide (((acs.getD (atL pid 0 acs).toNat a0).box.length : Int) ≥ (30 : Int))
def toldL (pid : Int) (t : Tm) (acs : List Ac) : List Ac:=if toldB pid acs = true then acs else acs.set (atL pid 0 acs).toNat { (acs.getD (atL pid 0 acs).toNat a0) with box:=(acs.getD (atL pid 0 acs).toNat a0).box++[t] }
theorem RowO.blkS {α : Type} {base t w : Nat} {P : Fp→AH→α→List Value→Prop} {S : Fp} {h : AH} {l : List α} {a : Option Addr} (x : RowO base t w P S h l a) : ∀ b,blk a b→S b:=by
 obtain ⟨vs,T,_,_,x3,_⟩:=x
 exact fun b hb=>(x3 b hb).1
theorem l11Told_run {base F f pb : Nat} {p : Fp} {P : Pl} {a b g : Option Addr} {S : Fp} {pid : Int} {t : Tm} {tcs : List Value} {V : Fp} {h0 h : AH} (hn : P.acs.length≤1048576) (hbx : ∀ A∈P.acs,A.box.length≤1048576) (hB : TmB f t) (hf : f≤F) (d : Hs base V h0 h [(pb,36,plV a P.code.length b P.acs.length P.next g P.out.length)] [rIn p fun y=>TmR y p f t tcs,rAs base F S P.acs b]) :
  Wp (run (Et base) 59 [.pointer (at0 pb),.int .i64 pid,.agg tcs.toArray] h) fun r=>r.1 = .bool (!toldB pid P.acs)∧∃ S',Hs base V h0 r.2 [(pb,36,plV a P.code.length b P.acs.length P.next g P.out.length)] [rIn p fun y=>TmR y p f t tcs,rAs base F S' (toldL pid t P.acs) b]:=by
 obtain ⟨k0,m0,s0,ta,tl,rfl⟩:=TmR.form (d.rs (i:=0) rfl)
 refine W.of (fun r hx=>Am.r59 hx) ?_
 ((refine W.nD d fun h1 d _ kh1=>?_); (with_reducible repeat first|refine W.a1 d ?_|refine W.bo ?_))
 obtain ⟨h2,e2,k2⟩:=l11At_run (base:=base) (P:=P) (v:=pid) (a:=a) (g:=g) (by omega) (RowO.asR (d.rs (i:=1) rfl)) d.ge
 have d:=d.kN k2
 refine W.bs e2 ?_
 ((with_reducible repeat refine W.a2 ?_))
 have hlt:=atL_lt pid P.acs 0
 apply W.jb (toldB pid P.acs) d
 ·unfold toldB
  refine W.ite (fun c=>?_) (fun c=>?_)
  ·rw [if_pos c]
   exact W.lb rfl rfl (KB.refl _ _)
  ·rw [if_neg c]
   have c' : ¬ atL pid 0 P.acs < 0:=by simpa using c
   have hi : (atL pid 0 P.acs).toNat < P.acs.length:=by omega
   ((with_reducible repeat first|refine W.a1 d ?_|refine W.bo ?_|refine W.a8 ?_))
   obtain ⟨ad,x1,x2,x3,rfl,hbl,g0,g1,g2,g3,g4,hmm,hlk⟩:=AsR.get (RowO.asR (d.rs (i:=1) rfl)) hi
   refine W.bs rfl (W.bS g3 ?_)
   rw [aD hi]
   exact W.lb rfl rfl (KB.refl _ _)
 intro h3 d n3
 ((with_reducible repeat refine W.a2 ?_))
 refine W.ite (fun c=>?_) (fun c=>?_)
 ·rw [c]
  refine W.ret ⟨rfl,S,?_⟩
  unfold toldL
  rw [if_pos c]
  exact d.tl
 ·have c2:=c
  unfold toldB at c2
  have c' : ¬ atL pid 0 P.acs < 0:=fun h=>c2 (by rw [if_pos (decide_eq_true h)])
  have hi : (atL pid 0 P.acs).toNat < P.acs.length:=by omega
  have hS3 : ∀ b,S b→b < h3.length:=d.rlt (i:=1) rfl
  ((with_reducible repeat first|refine W.a1 d ?_|refine W.bo ?_|refine W.a7 ?_); (refine W.nD d fun h4 d _ kh4=>?_); (with_reducible repeat first|refine W.a1 d ?_|refine W.bo ?_|refine W.a7 ?_|refine W.a8 ?_))
  have row : RowO base 54 5 (AcG base F) S h4 P.acs b:=d.rs (i:=1) rfl
  obtain ⟨C,csA,ad,hA,hcl,rfl,cells,hCS,hSb,hCb,mod⟩:=row.mod (AcG.kp _ _) (by decide) hi (d.rlt (i:=1) rfl)
  have hA0:=hA
  obtain ⟨ra,rb,rc,S1,S2,S3,rfl,q1,q2,q3,qg,t1,t2,t3,d12,d13,d23⟩:=hA
  refine W.bs rfl (W.gt (ne_A (n:=h3.length) (by have:=hS3 _ hSb; omega)) (W.bS (cells 3 _ rfl) ?_))
  have hbl:=hbx _ (List.getElem_mem hi)
  obtain ⟨vs,T2,er,ev,_,hT2,_,ch2⟩:=RowO.raws (w:=4) (fun S h x cs y=>by obtain ⟨_,_,_,_,_,rfl⟩:=TmG.form y; rfl) (by decide) q2
  obtain ⟨a5,h5,S5,e5,d,hS5,k5,l5⟩:=Hs.appD (n:=0) (m:=P.acs[(atL pid 0 P.acs).toNat].box.length) (bytes:=56) d (by rfl) (by decide) er (by omega) (by omega) ev
  simp only [Nat.zero_add,List.nil_append] at e5 d
  refine W.bs e5 ?_
  ((try simp only [n1,n2,n3,n4,n5,n6] at d); (with_reducible repeat first|refine W.a1 d ?_|refine W.a2 ?_|refine W.a6 d ?_|refine W.a7 ?_))
  obtain ⟨cs6,h6,e6,t6,k6⟩:=l1CopyG_run (base:=base) f _ p _ _ (d.rs (i:=0) rfl) hB d.ge (d.rlt (i:=0) rfl)
  obtain ⟨x1,x2,x3,x4,x5,rfl⟩:=t6.form
  have d:=d.callP (TmG.kp _ _) k6 t6
  refine W.bs e6 ?_
  ((try simp only [n1,n2,n3,n4,n5,n6] at d); (with_reducible repeat first|refine W.a2 ?_|refine W.a6 d ?_|refine W.a7 ?_); (refine W.nD d fun h7 d _ kh7=>?_))
  obtain ⟨a8,h8,e8,d,q8,k8,n8⟩:=d.app1O (w:=4) (i:=2) (n:=P.acs[(atL pid 0 P.acs).toNat].box.length) (bytes:=56) rfl hS5 (.head _) rfl (by decide) ev rfl (by omega) (by omega)
  refine W.bs e8 ?_
  ((try simp only [n1,n2,n3,n4,n5,n6] at d); (with_reducible repeat first|refine W.a2 ?_|refine W.bo ?_|refine W.a6 d ?_|refine W.a8 ?_))
  have n4 : h3.length < h4.length:=by omega
  have n6:=k6.1
  have n5:=k5.1
  have k48 : KB (fun b=>h3.length≤b) h4 h8:=KB.trans (KB.trans (KB.trans k5 k6 (T:=fun b=>h3.length≤b) (fun i _ hi=>by omega) (fun _ _ h=>h.elim)) kh7 (fun _ _ h=>h) (fun _ _ h=>h.elim)) k8 (fun _ _ h=>h) (fun i hi hs=>by have:=l5 i hs; omega)
  have old : ∀ b,S b→¬ h3.length≤b:=fun b hb=>by have:=hS3 b hb; omega
  have o8 : Own base 42 h8 a8 _:=d.rs (i:=2) rfl
  have t8 : TmG base f (iS h5.length h6.length) h8 t _:=d.rs (i:=3) rfl
  have n5h : h4.length≤h5.length:=n5
  have ch8 : Chunks 4 (TmG base F) (fun b=>T2 b∨iS h5.length h6.length b) h8 (P.acs[(atL pid 0 P.acs).toNat].box++[t]) (vs++termV x1 x2 x3 x4 x5):=
   (ch2.keep (TmG.kp _ _) k48 fun b hb=>old b (hCS b (t2 b (hT2 b hb)))).snoc (t8.le hf) (fun b hb hb'=>by have:=hS3 b (hCS b (t2 b (hT2 b hb'))); omega) (fun b hb=>.inl hb) (fun b hb=>.inr hb) (fun q hq=>chunk_app_other (by have:=mul_le' (w:=4) hq; omega)) (chunk_app_self rfl ev)
  have hlt8 : ∀ b,blk a8 b→h7.length≤b:=fun b hb=>by have:=q8 b hb; omega
  have row8 : RowO base 42 4 (TmG base F) (fun b=>S2 b∨blk a8 b∨iS h5.length h6.length b) h8 (P.acs[(atL pid 0 P.acs).toNat].box++[t]) a8:=
   ⟨_,_,o8,by simp [ev]; omega,fun b hb=>⟨.inr (.inl hb),fun hh=>by
    have:=hlt8 b hb
    rcases hh with hh|hh
    ·have:=hS3 b (hCS b (t2 b (hT2 b hh))); omega
    ·omega⟩,fun b hb=>hb.elim (fun h=>.inl (hT2 b h)) (fun h=>.inr (.inr h)),ch8⟩
  have hP : ∀ h2,KB (· = ad.block) h8 h2→AcG base F (fun b=>C b∨blk a8 b∨iS h5.length h6.length b) h2 { P.acs[(atL pid 0 P.acs).toNat] with box:=P.acs[(atL pid 0 P.acs).toNat].box++[t] } (setAt (acV P.acs[(atL pid 0 P.acs).toNat].pid P.acs[(atL pid 0 P.acs).toNat].pc ra P.acs[(atL pid 0 P.acs).toNat].regs.length rb P.acs[(atL pid 0 P.acs).toNat].box.length rc P.acs[(atL pid 0 P.acs).toNat].links.length) 3 [vL a8 (P.acs[(atL pid 0 P.acs).toNat].box.length + 1)]):=by
   intro h2 k2
   have kk : KB (fun b=>h3.length≤b∨b = ad.block) h4 h2:=KB.trans k48 k2 (fun _ _ h=>.inl h) (fun _ _ h=>.inr h)
   have oldC : ∀ b,C b→¬ (h3.length≤b∨b = ad.block):=fun b hb hh=>by
    rcases hh with hh|hh
    ·exact old b (hCS b hb) hh
    ·exact hCb (hh ▸ hb)
   refine ⟨ra,a8,rc,S1,fun b=>S2 b∨blk a8 b∨iS h5.length h6.length b,S3,by simp [setAt],q1.keep (TmG.kp _ _) kk fun b hb=>oldC b (t1 b hb),row8.keep (TmG.kp _ _) k2 fun b hb hk=>?_,q3.keep kk fun b hb=>oldC b (t3 b (qg b hb)),qg,fun b hb=>.inl (t1 b hb),fun b hb=>hb.elim (fun h=>.inl (t2 b h)) .inr,fun b hb=>.inl (t3 b hb),fun b h1 h2=>?_,d13,fun b h1 h2=>?_⟩
   ·have h3b:=hS3 _ hSb
    rcases hb with hb|hb|hb
    ·exact hCb (hk ▸ t2 b hb)
    ·have:=hlt8 b hb; omega
    ·omega
   ·have h3b:=hS3 _ (hCS _ (t1 b h1))
    rcases h2 with h2|h2|h2
    ·exact d12 b h1 h2
    ·have:=hlt8 b h2; omega
    ·omega
   ·have h3b:=hS3 _ (hCS _ (t3 b h2))
    rcases h1 with h1|h1|h1
    ·exact d23 b h1 h2
    ·have:=hlt8 b h1; omega
    ·omega
  obtain ⟨h9,e9,r9,k9,l9⟩:=mod (fun b=>h3.length≤b) (fun b=>C b∨blk a8 b∨iS h5.length h6.length b) h8 _ [vL a8 (P.acs[(atL pid 0 P.acs).toNat].box.length + 1)] 3 { P.acs[(atL pid 0 P.acs).toNat] with box:=P.acs[(atL pid 0 P.acs).toNat].box++[t] } k48 (fun b hb hs=>absurd hb (old b hs)) (by simp) (by simp) rfl hP (fun b hb hs=>by
   rcases hb with hb|hb|hb
   ·exact hb
   ·have:=hlt8 b hb; have:=hS3 b hs; omega
   ·have:=hS3 b hs; omega)
  refine W.bs e9 (W.ret ⟨?_,?_⟩)
  ·have : toldB pid P.acs = false:=by simpa using c
   rw [this]; rfl
  ·have d:=d.join (r':=⟨fun b=>blk a8 b∨iS h5.length h6.length b,true,fun _=>True⟩) (Upd.at (i:=3) rfl) (Upd.at (i:=2) rfl) rfl rfl rfl (KB.refl NoB _) (fun _ h=>h.elim) trivial (fun _ _ _ _ _ h=>h) (fun b hb=>hb.elim .inl fun h=>.inr (.inl h))
   have d:=d.joinO (AcG.kp _ _) (Upd.at (i:=2) rfl) (Upd.at (i:=1) rfl) rfl rfl k9 r9 (fun b hb=>.inl (by rw [hb]; exact hSb)) (fun b hb=>by
    rcases hb with hb|hb|hb
    ·exact .inl hb
    ·exact .inl (hCS b hb)
    ·exact .inr (.inl hb))
   unfold toldL
   rw [if_neg c,aD hi]
   exact ⟨_,(d.tl.tl).takeR 2⟩
def unlk (v : Int) (A : Ac) : Ac:=⟨A.pid,A.pc,A.regs,A.box,dropI v A.links⟩
def cutA (k : Nat) (l : List Ac) : List Ac:=l.take k++l.drop (k + 1)
def endP (ok : Bool) (t : Tm) : Nat→Int→Pl→Pl
 | 0,_,P=>P
 | n + 1,pid,P=>if decide (atL pid 0 P.acs < 0) = true then P else
   if ok = true then ⟨P.code,(cutA (atL pid 0 P.acs).toNat P.acs).map (unlk pid),P.next,sayL P.out 3 pid t⟩
   else (P.acs.getD (atL pid 0 P.acs).toNat a0).links.foldl (fun Q m=>endP ok t n m Q) ⟨P.code,(cutA (atL pid 0 P.acs).toNat P.acs).map (unlk pid),P.next,sayL P.out 3 pid t⟩
def PE (P : Pl) : Prop:=P.acs.length≤1048576∧P.out.length≤1048576∧∀ A∈P.acs,A.links.length≤1048576
theorem cutA_len {k : Nat} {l : List Ac} (h : k < l.length) : (cutA k l).length + 1 = l.length:=by unfold cutA; simp; omega
theorem cutA_mem {k : Nat} {l : List Ac} {A : Ac} (h : A∈cutA k l) : A∈l:=by
 rcases List.mem_append.1 h with h|h
 ·exact List.mem_of_mem_take h
 ·exact List.mem_of_mem_drop h
theorem sayL_le {l : List Sd} {kind pid : Int} {t : Tm} (h : l.length≤1048576) : (sayL l kind pid t).length≤1048576:=by
 unfold sayL
 split
 ·exact h
 ·rename_i c; simp at c ⊢; omega
theorem endP_code (ok : Bool) (t : Tm) : ∀ n pid P,(endP ok t n pid P).code = P.code∧(endP ok t n pid P).next = P.next
 | 0,_,P=>⟨rfl,rfl⟩
 | n + 1,pid,P=>by
  rw [endP]
  split
  ·exact ⟨rfl,rfl⟩
  split
  ·exact ⟨rfl,rfl⟩
  ·have : ∀ (l : List Int) (Q : Pl),(l.foldl (fun Q m=>endP ok t n m Q) Q).code = Q.code∧(l.foldl (fun Q m=>endP ok t n m Q) Q).next = Q.next:=by
    intro l
    induction l with
    | nil=>intro Q; exact ⟨rfl,rfl⟩
    | cons m l ih=>intro Q; obtain ⟨h1,h2⟩:=ih (endP ok t n m Q); obtain ⟨h3,h4⟩:=endP_code ok t n m Q; exact ⟨h1.trans h3,h2.trans h4⟩
   exact this _ _
theorem endP_PE (ok : Bool) (t : Tm) : ∀ n pid P,PE P→PE (endP ok t n pid P)∧(endP ok t n pid P).acs.length≤P.acs.length
 | 0,_,P,h=>⟨h,Nat.le_refl _⟩
 | n + 1,pid,P,h=>by
  rw [endP]
  split
  ·exact ⟨h,Nat.le_refl _⟩
  rename_i c
  have c : ¬ atL pid 0 P.acs < 0:=by simpa using c
  have hlt:=atL_lt pid P.acs 0
  have hi : (atL pid 0 P.acs).toNat < P.acs.length:=by omega
  have hc:=cutA_len hi
  have h1 : PE ⟨P.code,(cutA (atL pid 0 P.acs).toNat P.acs).map (unlk pid),P.next,sayL P.out 3 pid t⟩:=by
   refine ⟨by simp; have:=h.1; omega,sayL_le h.2.1,fun A hA=>?_⟩
   obtain ⟨B,hB,rfl⟩:=List.mem_map.1 hA
   exact Nat.le_trans dropI_len (h.2.2 B (cutA_mem hB))
  split
  ·exact ⟨h1,by simp; omega⟩
  ·have : ∀ (l : List Int) (Q : Pl),PE Q→PE (l.foldl (fun Q m=>endP ok t n m Q) Q)∧(l.foldl (fun Q m=>endP ok t n m Q) Q).acs.length≤Q.acs.length:=by
    intro l
    induction l with
    | nil=>intro Q hQ; exact ⟨hQ,Nat.le_refl _⟩
    | cons m l ih=>
     intro Q hQ
     obtain ⟨h1,h2⟩:=endP_PE ok t n m Q hQ
     obtain ⟨h3,h4⟩:=ih _ h1
     exact ⟨h3,Nat.le_trans h4 h2⟩
   obtain ⟨h2,h3⟩:=this (P.acs.getD (atL pid 0 P.acs).toNat a0).links _ h1
   exact ⟨h2,Nat.le_trans h3 (by simp; omega)⟩
theorem AcG.setLinks {base F : Nat} {C U : Fp} {h h2 : AH} {A : Ac} {cs : List Value} {a' : Option Addr} {zs : List Int} (x : AcG base F C h A cs) (k : KB U h h2) (hU : ∀ b,C b→¬ U b) (o : Own base 3 h2 a' (iv .i64 zs)) (hd : ∀ b,blk a' b→¬ C b) : AcG base F (fun b=>C b∨blk a' b) h2 ⟨A.pid,A.pc,A.regs,A.box,zs⟩ (setAt cs 4 [.slice a' zs.length zs.length]):=by
 obtain ⟨ra,rb,rc,S1,S2,S3,rfl,q1,q2,q3,qg,t1,t2,t3,d12,d13,d23⟩:=x
 exact ⟨ra,rb,a',S1,S2,blk a',rfl,q1.keep (TmG.kp _ _) k fun b hb=>hU b (t1 b hb),q2.keep (TmG.kp _ _) k fun b hb=>hU b (t2 b hb),o,fun _ h=>h,fun b hb=>.inl (t1 b hb),fun b hb=>.inl (t2 b hb),fun b hb=>.inr hb,d12,fun b h1 h2=>hd b h2 (t1 b h1),fun b h1 h2=>hd b h2 (t2 b h1)⟩
theorem map_step {α : Type} {f : α→α} {l : List α} {i : Nat} (h : i < l.length) : ((l.take i).map f++l.drop i).set i (f l[i]) = (l.take (i + 1)).map f++l.drop (i + 1):=by
 rw [List.set_append_right _ _ (by simp only [List.length_map,List.length_take]; omega),List.drop_eq_getElem_cons h]
 have : i - ((l.take i).map f).length = 0:=by rw [List.length_map,List.length_take]; omega
 rw [this,List.set_cons_zero,take_snoc h,List.map_append]
 simp
theorem map_get {α : Type} {f : α→α} {l : List α} {i : Nat} (h : i < l.length) (h2 : i < ((l.take i).map f++l.drop i).length) : ((l.take i).map f++l.drop i)[i] = l[i]:=by
 rw [List.getElem_append_right (by simp only [List.length_map,List.length_take]; omega)]
 have : i - ((l.take i).map f).length = 0:=by rw [List.length_map,List.length_take]; omega
 simp only [this,List.getElem_drop]
 simp
theorem l11Unl_loop {base F pb tb : Nat} {P : Pl} {a b g lk : Option Addr} {lm : Nat} {v : Int} (hl : P.acs.length≤1048576) (hlk : ∀ A∈P.acs,A.links.length≤1048576) {V : Fp} {h0 : AH} : ∀ (n i : Nat) (h : AH) (S : Fp),i + n = P.acs.length→Hs base V h0 h [(pb,36,plV a P.code.length b P.acs.length P.next g P.out.length)] [rAs base F S ((P.acs.take i).map (unlk v)++P.acs.drop i) b] →
  Wp (loopL (B175_0 base) [some (.pointer (at0 pb)),some (.int .i64 v),some (.pointer (at0 tb)),some (.slice lk lm lm),some (.int .i64 (i : Int))] h) fun o=>o.1 = 2∧o.2.1 = [some (.pointer (at0 pb)),some (.int .i64 v),some (.pointer (at0 tb)),some (.slice lk lm lm)]∧∃ S',Hs base V h0 o.2.2 [(pb,36,plV a P.code.length b P.acs.length P.next g P.out.length)] [rAs base F S' (P.acs.map (unlk v)) b]:=by
 intro n
 induction n with
 | zero=>
  intro i h S hi d
  have hi' : i = P.acs.length:=by omega
  subst hi'
  rw [List.take_of_length_le (Nat.le_refl _),List.drop_of_length_le (Nat.le_refl _),List.append_nil] at d
  suffices w : Wp (B175_0 base [some (.pointer (at0 pb)),some (.int .i64 v),some (.pointer (at0 tb)),some (.slice lk lm lm),some (.int .i64 (P.acs.length : Int))] h) fun o=>o = (2,[some (.pointer (at0 pb)),some (.int .i64 v),some (.pointer (at0 tb)),some (.slice lk lm lm)],h) by
   obtain ⟨o,e,rfl⟩:=w
   exact ⟨_,loop_off (by decide) e,rfl,rfl,S,d⟩
  rw [B175_0_eq]
  ((with_reducible repeat first|refine W.a1 d ?_|refine W.bo ?_))
  exact W.ifF (by simp) (W.ret rfl)
 | succ n ih=>
  intro i h S hi d
  have hlt : i < P.acs.length:=by omega
  have hlt2 : i < ((P.acs.take i).map (unlk v)++P.acs.drop i).length:=by simp; omega
  suffices w : Wp (B175_0 base [some (.pointer (at0 pb)),some (.int .i64 v),some (.pointer (at0 tb)),some (.slice lk lm lm),some (.int .i64 (i : Int))] h) fun o=>o.1 = 0∧o.2.1 = [some (.pointer (at0 pb)),some (.int .i64 v),some (.pointer (at0 tb)),some (.slice lk lm lm),some (.int .i64 ((i + 1 : Nat) : Int))]∧∃ S',Hs base V h0 o.2.2 [(pb,36,plV a P.code.length b P.acs.length P.next g P.out.length)] [rAs base F S' ((P.acs.take (i + 1)).map (unlk v)++P.acs.drop (i + 1)) b] by
   obtain ⟨⟨o1,o2,h'⟩,e,y1,y2,S',d'⟩:=w
   simp only at y1 y2 d'
   subst y1; subst y2
   obtain ⟨o,eo,q⟩:=ih (i + 1) h' S' (by omega) d'
   exact ⟨o,loop_on e eo,q⟩
  have hSl:=d.rlt (i:=0) rfl
  have row : RowO base 54 5 (AcG base F) S h _ b:=d.rs (i:=0) rfl
  obtain ⟨C,csA,ad,hA,hcl,rfl,cells,hCS,hSb,hCb,mod⟩:=row.mod (AcG.kp _ _) (by decide) hlt2 hSl
  rw [map_get hlt] at hA
  have hA0:=hA
  obtain ⟨ra,rb,rc,rfl⟩:=hA.form2
  obtain ⟨_,_,rc',_,_,S3,ecs,_,_,q3,qg,_,_,t3,_⟩:=hA
  injection ecs with _ ecs
  injection ecs with _ ecs
  injection ecs with _ ecs
  injection ecs with _ ecs
  injection ecs with ecs _
  injection ecs with ecs _ _
  subst ecs
  rw [B175_0_eq]
  ((with_reducible repeat first|refine W.a1 d ?_|refine W.bo ?_))
  refine W.ifT (decide_eq_true (by show (i : Int) < (P.acs.length : Int); omega)) ?_
  ((with_reducible repeat first|refine W.a1 d ?_|refine W.bo ?_|refine W.a8 ?_))
  rw [Int.toNat_natCast]
  refine W.bS (cells 4 _ rfl) ?_
  have hlk':=hlk _ (List.getElem_mem hlt)
  obtain ⟨a2,h2,e2,o2,k2,f2⟩:=l11Drop_run (base:=base) (v:=v) (zs:=P.acs[i].links) (by omega) q3.sl d.ge
  have d:=d.call k2 (blk a2) (fun y=>Own base 3 y a2 (iv .i64 (dropI v P.acs[i].links))) o2 (fun U y y' k hs x=>Own.keep x k hs) (fun b hb=>⟨f2 b hb,(o2.lt hb).2⟩)
  refine W.bs e2 ?_
  ((try simp only [n1,n2,n3,n4,n5,n6] at d); (with_reducible repeat first|refine W.a2 ?_|refine W.bo ?_|refine W.a6 d ?_|refine W.a8 ?_))
  obtain ⟨h3,e3,r3,k3,z3⟩:=mod NoB (fun b=>C b∨blk a2 b) h2 _ [.slice a2 (dropI v P.acs[i].links).length (dropI v P.acs[i].links).length] 4 (unlk v P.acs[i]) k2 (fun b h=>(h : False).elim) (Nat.le_refl 5) (by simp) rfl (fun h4 k4=>AcG.setLinks hA0 (KB.trans (T:=(· = ad.block)) k2 k4 (fun _ _ h=>(h : False).elim) fun _ _ h=>h) (fun b hb e=>hCb (e ▸ hb)) ((d.rs (i:=1) rfl : Own base 3 h2 a2 _).keep k4 fun b hb e=>by have:=f2 b hb; have:=hSl _ hSb; omega) (fun b hb hc=>by have:=f2 b hb; have:=hSl _ (hCS b hc); omega)) (fun b hb hs=>hb.resolve_right fun hc=>by have:=f2 b hc; have:=hSl _ hs; omega)
  refine W.bs e3 ?_
  skip
  rw [w64i (n:=(i : Int) + 1) (by omega) (by omega)]
  refine W.ret ⟨rfl,rfl,fun b=>S b∨C b∨blk a2 b,?_⟩
  rw [map_step hlt] at r3
  exact (d.joinO (AcG.kp _ _) (Upd.at (i:=1) rfl) (Upd.at (i:=0) rfl) rfl rfl (k3.mono fun b _ h=>h) r3 (fun b hb=>.inl (hb ▸ hSb)) (fun b hb=>hb.elim .inl fun hb=>hb.elim (fun hb=>.inl (hCS b hb)) fun hb=>.inr (.inl hb))).takeR 1
theorem im3 {a c e : Rs} {l : List Rs} (hc : c.mu = true) (he : e.mu = true) (ha : a.mu = false) : ∀ r∈[a,c,e],r.mu = false→∃ r0∈a :: l,r0.mu = false∧r0.S = r.S:=by
 intro r hr hm
 simp only [List.mem_cons,List.not_mem_nil,or_false] at hr
 rcases hr with rfl|rfl|rfl
 ·exact ⟨_,.head _,ha,rfl⟩
 ·rw [hc] at hm; cases hm
 ·rw [he] at hm; cases hm
def okA (k n : Int) (s : ByteArray) (m : Nat) : Bool:=isA k n s m (⟨#[111,107]⟩ : ByteArray)
def EndsR (base F f pb : Nat) (p : Fp) (t : Tm) (k0 m0 : Int) (s0 : ByteArray) (ta : Option Addr) (tl : Nat) (ok : Bool) (G n : Nat) : Prop:=∀ (P : Pl) (pid : Int) (a b g : Option Addr) (S So V : Fp) (h0 h : AH),P.acs.length≤n→PE P→Hs base V h0 h [(pb,36,plV a P.code.length b P.acs.length P.next g P.out.length)] [rIn p fun y=>TmR y p f t (termV k0 m0 s0 ta tl),rAs base F S P.acs b,rSs base f So P.out g] →
 Wp (run (Et base) G [.pointer (at0 pb),.int .i64 pid,.agg (termV k0 m0 s0 ta tl).toArray] h) fun r=>r.1 = .tuple #[]∧∃ b' g' S' So',Hs base V h0 r.2 [(pb,36,plV a P.code.length b' (endP ok t n pid P).acs.length P.next g' (endP ok t n pid P).out.length)] [rIn p fun y=>TmR y p f t (termV k0 m0 s0 ta tl),rAs base F S' (endP ok t n pid P).acs b',rSs base f So' (endP ok t n pid P).out g']
theorem l11Ends_loop {base F f pb tb n : Nat} {p : Fp} {t : Tm} {k0 m0 : Int} {s0 : ByteArray} {ta : Option Addr} {tl : Nat} (hB : TmB f t) (ih : EndsR base F f pb p t k0 m0 s0 ta tl (okA k0 m0 s0 tl) 175 n) {a : Option Addr} {ls : List Int} {lk : Option Addr} {C : Fp} {A : AH→Prop} {V : Fp} {h0 : AH} (hA : ∀ h,A h→Sl h lk (iv .i64 ls)) (hls : ls.length≤1048576) : ∀ (m i : Nat) (h : AH) (b g : Option Addr) (S So : Fp) (P : Pl),i + m = ls.length→P.acs.length≤n→PE P→Hs base V h0 h [(pb,36,plV a P.code.length b P.acs.length P.next g P.out.length),(tb,42,termV k0 m0 s0 ta tl)] [rIn p fun y=>TmR y p f t (termV k0 m0 s0 ta tl),rAs base F S P.acs b,rSs base f So P.out g,⟨C,true,A⟩] →
  Wp (loopL (B175_1 base) [some (.pointer (at0 pb)),some (.pointer (at0 tb)),some (.slice lk ls.length ls.length),some (.int .i64 (i : Int))] h) fun o=>o.1 = 4∧∃ b' g' S' So',Hs base V h0 o.2.2 [(pb,36,plV a P.code.length b' (if okA k0 m0 s0 tl = true then P else (ls.drop i).foldl (fun Q m=>endP (okA k0 m0 s0 tl) t n m Q) P).acs.length P.next g' (if okA k0 m0 s0 tl = true then P else (ls.drop i).foldl (fun Q m=>endP (okA k0 m0 s0 tl) t n m Q) P).out.length),(tb,42,termV k0 m0 s0 ta tl)] [rIn p fun y=>TmR y p f t (termV k0 m0 s0 ta tl),rAs base F S' (if okA k0 m0 s0 tl = true then P else (ls.drop i).foldl (fun Q m=>endP (okA k0 m0 s0 tl) t n m Q) P).acs b',rSs base f So' (if okA k0 m0 s0 tl = true then P else (ls.drop i).foldl (fun Q m=>endP (okA k0 m0 s0 tl) t n m Q) P).out g',⟨C,true,A⟩]:=by
 intro m
 induction m with
 | zero=>
  intro i h b g S So P hi hn hP d
  have hi' : i = ls.length:=by omega
  subst hi'
  have e0 : (if okA k0 m0 s0 tl = true then P else (ls.drop ls.length).foldl (fun Q m=>endP (okA k0 m0 s0 tl) t n m Q) P) = P:=by
   rw [List.drop_of_length_le (Nat.le_refl _)]; split <;> rfl
  rw [e0]
  suffices w : Wp (B175_1 base [some (.pointer (at0 pb)),some (.pointer (at0 tb)),some (.slice lk ls.length ls.length),some (.int .i64 (ls.length : Int))] h) fun o=>o = (4,[],h) by
   obtain ⟨o,e,rfl⟩:=w
   exact ⟨_,loop_off (by decide) e,rfl,b,g,S,So,d⟩
  rw [B175_1_eq]
  skip
  refine W.join (W.ifF (by simp) (W.il ?_))
  ((with_reducible repeat refine W.a2 ?_))
  exact W.ifF (by decide) (W.ret rfl)
 | succ m ihm=>
  intro i h b g S So P hi hn hP d
  have hlt : i < ls.length:=by omega
  suffices w : Wp (B175_1 base [some (.pointer (at0 pb)),some (.pointer (at0 tb)),some (.slice lk ls.length ls.length),some (.int .i64 (i : Int))] h) fun o=>if okA k0 m0 s0 tl = true then (∃ h',o = (4,[],h')∧Hs base V h0 h' [(pb,36,plV a P.code.length b P.acs.length P.next g P.out.length),(tb,42,termV k0 m0 s0 ta tl)] [rIn p fun y=>TmR y p f t (termV k0 m0 s0 ta tl),rAs base F S P.acs b,rSs base f So P.out g,⟨C,true,A⟩]) else o.1 = 0∧o.2.1 = [some (.pointer (at0 pb)),some (.pointer (at0 tb)),some (.slice lk ls.length ls.length),some (.int .i64 ((i + 1 : Nat) : Int))]∧∃ b' g' S' So',Hs base V h0 o.2.2 [(pb,36,plV a P.code.length b' (endP (okA k0 m0 s0 tl) t n ls[i] P).acs.length P.next g' (endP (okA k0 m0 s0 tl) t n ls[i] P).out.length),(tb,42,termV k0 m0 s0 ta tl)] [rIn p fun y=>TmR y p f t (termV k0 m0 s0 ta tl),rAs base F S' (endP (okA k0 m0 s0 tl) t n ls[i] P).acs b',rSs base f So' (endP (okA k0 m0 s0 tl) t n ls[i] P).out g',⟨C,true,A⟩] by
   obtain ⟨⟨o1,o2,h'⟩,e,q⟩:=w
   by_cases c : okA k0 m0 s0 tl = true
   ·rw [if_pos c] at q
    obtain ⟨h2,e2,d2⟩:=q
    injection e2 with e3 e4
    injection e4 with e4 e5
    subst e3; subst e4; subst e5
    refine ⟨_,loop_off (by decide) e,rfl,b,g,S,So,?_⟩
    rw [if_pos c]
    exact d2
   ·rw [if_neg c] at q
    obtain ⟨y1,y2,b',g',S',So',d'⟩:=q
    simp only at y1 y2 d'
    subst y1; subst y2
    obtain ⟨q1,q2⟩:=endP_PE (okA k0 m0 s0 tl) t n ls[i] P hP
    obtain ⟨q3,q4⟩:=endP_code (okA k0 m0 s0 tl) t n ls[i] P
    obtain ⟨o,eo,q⟩:=ihm (i + 1) h' b' g' S' So' (endP (okA k0 m0 s0 tl) t n ls[i] P) (by omega) (by omega) q1 (by rw [q3,q4]; exact d')
    refine ⟨o,loop_on e eo,?_⟩
    rw [if_neg c] at q ⊢
    rw [q3,q4] at q
    rw [List.drop_eq_getElem_cons hlt,List.foldl_cons]
    exact q
  rw [B175_1_eq]
  skip
  refine W.join (W.ifT (decide_eq_true (by omega)) ?_)
  ((with_reducible repeat refine W.a1 d ?_))
  obtain ⟨h1,e1,k1⟩:=l9Atom_run (base:=base) (h:=h) (w:=(⟨#[111,107]⟩ : ByteArray)) d.ge
  have d:=d.kN k1
  refine W.bs e1 ?_
  ((with_reducible repeat first|refine W.a2 ?_|refine W.a6 d ?_))
  obtain ⟨h2,e2,k2⟩:=specSameAtom_run (base:=base) (h:=h1) (k:=k0) (n:=m0) (s:=s0) (a:=ta) (m:=tl) (w:=(⟨#[111,107]⟩ : ByteArray)) d.ge
  have d:=d.kN k2
  refine W.bs e2 ?_
  ((with_reducible repeat refine W.a2 ?_))
  refine W.il ?_
  ((with_reducible repeat refine W.a2 ?_))
  show Wp (if (!okA k0 m0 s0 tl) = true then _ else _) _
  by_cases c : okA k0 m0 s0 tl = true
  ·refine W.ifF (by rw [c]; decide) (W.ret ?_)
   rw [if_pos c]
   exact ⟨_,rfl,d⟩
  ·refine W.ifT (by simpa using c) (W.ifT ⟨by omega,by omega⟩ ?_)
   rw [Int.toNat_natCast]
   refine W.ri (hA _ (d.rs (i:=3) rfl)) hlt ?_
   ((with_reducible repeat refine W.a1 d ?_))
   have d1:=Hs.part (D1:=[_]) (R1:=[_,_,_]) d
   refine W.wb (ih P ls[i] a b g S So _ _ _ hn hP d1) ?_
   rintro ⟨u,h3⟩ ⟨y1,b',g',S',So',d3⟩
   simp only at y1 d3
   subst y1
   have d:=Hs.back (D1:=[_]) (R1:=[_,_,_]) d d3 (im3 rfl rfl rfl)
   ((try simp only [n1,n2,n3,n4,n5,n6] at d); (with_reducible repeat refine W.a3 ?_))
   rw [w64i (n:=(i : Int) + 1) (by omega) (by omega)]
   refine W.ret ?_
   rw [if_neg c]
   exact ⟨rfl,rfl,b',g',S',So',d⟩
theorem acG_leaf {base F : Nat} : ∀ S h x cs,AcG base F S h x cs→cs.all leaf = true:=fun S h x cs y=>by
 obtain ⟨ra,rb,rc,rfl⟩:=y.form2
 rfl
theorem Sl.at {h : AH} {a : Option Addr} {vs : List Value} {i : Nat} {v : Value} (x : Sl h a vs) (e : vs[i]? = some v) : ∃ ad,a = some ad∧Am.cell h ad.block (ad.off + i) = some v:=by
 rcases x with rfl|⟨ad,k,rfl,e2,e3,e4⟩
 ·simp at e
 ·exact ⟨ad,rfl,by simp [Am.cell,e2,e4 _ _ e]⟩
theorem l11Ends_run {base F f pb : Nat} {p : Fp} {t : Tm} {k0 m0 : Int} {s0 : ByteArray} {ta : Option Addr} {tl : Nat} (hB : TmB f t) : ∀ n,EndsR base F f pb p t k0 m0 s0 ta tl (okA k0 m0 s0 tl) 175 n:=by
 intro n
 induction n with
 | zero=>
  intro P pid a b g S So V h0 h hn hP d
  have hz : P.acs = []:=List.eq_nil_of_length_eq_zero (by omega)
  refine W.of (fun r hx=>Am.r175 hx) ?_
  ((refine W.nD d fun h1 d _ kh1=>?_); (with_reducible repeat first|refine W.a1 d ?_|refine W.bo ?_))
  obtain ⟨h2,e2,k2⟩:=l11At_run (base:=base) (P:=P) (v:=pid) (a:=a) (g:=g) (by omega) (RowO.asR (d.rs (i:=1) rfl)) d.ge
  have d:=d.kN k2
  refine W.bs e2 ?_
  ((with_reducible repeat refine W.a2 ?_))
  refine W.ifT (by rw [hz]; rfl) (W.ret ⟨rfl,b,g,S,So,?_⟩)
  exact d.tl
 | succ n ih=>
  intro P pid a b g S So V h0 h hn hP d
  obtain ⟨p1,p2,p3⟩:=hP
  refine W.of (fun r hx=>Am.r175 hx) ?_
  ((refine W.nD d fun h1 d _ kh1=>?_); (with_reducible repeat first|refine W.a1 d ?_|refine W.bo ?_))
  obtain ⟨h2,e2,k2⟩:=l11At_run (base:=base) (P:=P) (v:=pid) (a:=a) (g:=g) (by omega) (RowO.asR (d.rs (i:=1) rfl)) d.ge
  have d:=d.kN k2
  refine W.bs e2 ?_
  ((with_reducible repeat refine W.a2 ?_))
  refine W.ite (fun c=>?_) (fun c=>?_)
  ·refine W.ret ⟨rfl,b,g,S,So,?_⟩
   rw [endP,if_pos c]
   exact d.tl
  have hlt:=atL_lt pid P.acs 0
  have c' : ¬ atL pid 0 P.acs < 0:=by simpa using c
  have hi : (atL pid 0 P.acs).toNat < P.acs.length:=by omega
  obtain ⟨q,eq⟩ : ∃ q,(atL pid 0 P.acs).toNat = q:=⟨_,rfl⟩
  have eq' : atL pid 0 P.acs = (q : Int):=by omega
  rw [eq] at hi
  rw [eq'] at c ⊢
  ((with_reducible repeat first|refine W.a1 d ?_|refine W.bo ?_|refine W.a8 ?_))
  rw [Int.toNat_natCast]
  have row2 : RowO base 54 5 (AcG base F) S h2 P.acs b:=d.rs (i:=1) rfl
  have ok2 : TyOk base h2 b 54:=by obtain ⟨_,_,o,_⟩:=row2; exact TyOk.own o
  obtain ⟨vs,T,er,ev,hsl,hT,hTb,ch⟩:=row2.raws acG_leaf (by decide)
  have hvl:=ch.leaf acG_leaf (by decide) ev
  obtain ⟨CC,_,_,c3⟩:=ch
  obtain ⟨ra,rb,rc,ech⟩:=(c3 q _ (List.getElem?_eq_getElem hi)).form2
  have hq5 : q * 5 + 4 < vs.length:=by omega
  have e4 : vs[q * 5 + 4]? = some (.slice rc P.acs[q].links.length P.acs[q].links.length):=by
   have : (chunk 5 q vs)[4]? = some (.slice rc P.acs[q].links.length P.acs[q].links.length):=by rw [ech]; rfl
   rw [chunk,List.getElem?_take_of_lt (by decide),List.getElem?_drop] at this
   exact this
  obtain ⟨ad,rfl,g4⟩:=hsl.at e4
  refine W.bs rfl (W.bS g4 ?_)
  ((refine W.nD d fun h3 d _ kh3=>?_); (with_reducible repeat first|refine W.a1 d ?_|refine W.bo ?_|refine W.a7 ?_))
  have ok3:=ok2.keepN kh3
  have hsl : Sl h3 (some ad) vs:=hsl.keepN kh3
  have er : rawAt h3 (some ad) (P.acs.length * 5) = some vs:=rawAt_keep kh3 (fun _ _ h=>h) er
  have er1 : rawAt h3 (shiftA (some ad) (0 * 5)) ((q - 0) * 5) = some (vs.take (q * 5)):=by
   have:=rawAt_part (n:=0) (m:=q * 5) hsl hvl (by omega)
   rw [List.drop_zero] at this
   simpa using this
  refine W.ifT ⟨by omega,by omega,by show (q : Int)≤(P.acs.length : Int); omega,rfl⟩ ?_
  rw [show Int.toNat 0 = 0 from rfl,er1]
  have hbl : ∀ x,blk (some ad) x→x < h2.length:=fun x hx=>by obtain ⟨ad',e',rfl⟩:=hx; injection e' with e'; subst e'; exact (ok2 ad rfl).1
  obtain ⟨a4,h4,S4,e4,d,hS4,k4,l4⟩:=Hs.appD (n:=0) (m:=q) (sz:=5) (bytes:=88) d (by rfl) (by decide) (rfl : some (vs.take (q * 5)) = some _) (by omega) (by omega) (by simp; omega)
  simp only [Nat.zero_add,List.nil_append,Nat.sub_zero] at e4 d ⊢
  refine W.bs e4 ?_
  have u4 : ∀ b,blk (some ad) b→¬ b = h2.length:=fun b hb=>by have:=hbl b hb; omega
  have ok4:=ok3.keep k4 u4
  have hsl:=hsl.keep k4 fun b hb hu=>u4 b hb hu
  have er:=rawAt_keep k4 u4 er
  ((try simp only [n1,n2,n3,n4,n5,n6] at d); (with_reducible repeat first|refine W.a1 d ?_|refine W.a2 ?_|refine W.bo ?_|refine W.a6 d ?_|refine W.a7 ?_))
  refine W.gt (ok2.ne (Nat.le_refl _)) (W.gt (ok3.same0 k4 u4) ?_)
  rw [w64i (n:=(q : Int) + 1) (by omega) (by omega)]
  refine W.ifT ⟨by omega,by show (q : Int) + 1≤(P.acs.length : Int); omega,Int.le_refl _,ok4.ok _⟩ ?_
  have eq1 : Int.toNat ((q : Int) + 1) = q + 1:=by omega
  have er2 : rawAt h4 (shiftA (some ad) ((q + 1) * 5)) ((P.acs.length - (q + 1)) * 5) = some (vs.drop ((q + 1) * 5)):=by
   have:=rawAt_part (n:=(q + 1) * 5) (m:=(P.acs.length - (q + 1)) * 5) hsl hvl (by omega)
   rw [this,List.take_of_length_le (by simp; omega)]
  simp only [eq1,Int.toNat_natCast]
  rw [er2]
  obtain ⟨a5,h5,e5,d,q5,k5⟩:=d.appO (i:=3) (w:=5) (n:=q) (m:=P.acs.length - (q + 1)) (bytes:=88) rfl hS4 (rfl : some (vs.drop ((q + 1) * 5)) = some _) (by decide) (by simp; omega) (by simp; omega) (by omega) (by omega)
  refine W.bs e5 ?_
  have u5 : ∀ b,blk (some ad) b→¬ S4 b:=fun b hb hs=>by have:=hbl b hb; have:=l4 b hs; omega
  have er:=rawAt_keep k5 u5 er
  obtain ⟨C,S5,d,hC,hS5⟩:=d.cut (AcG.kp _ _) (i:=1) (j:=3) (q:=q) rfl hi acG_leaf (by decide) er (by decide) rfl (fun b h=>h)
  ((try simp only [n1,n2,n3,n4,n5,n6] at d); (with_reducible repeat first|refine W.a2 ?_|refine W.bo ?_|refine W.a5 d fun hw d lw kw=>?_))
  have ecl : q + (P.acs.length - (q + 1)) = (cutA q P.acs).length:=by have:=cutA_len hi; omega
  have hcut:=cutA_len hi
  have d:=d.front (.there .here)
  simp only [ecl] at d ⊢
  have d : Hs base V h0 hw [(pb,36,plV a P.code.length a5 (cutA q P.acs).length P.next g P.out.length),(h.length,42,termV k0 m0 s0 ta tl)] [rIn p fun y=>TmR y p f t (termV k0 m0 s0 ta tl),rAs base F S5 (cutA q P.acs) a5,rSs base f So P.out g,⟨C,true,fun x=>AcG base F C x P.acs[q] (chunk 5 q vs)⟩]:=d
  have d:=d.frontR (Del.at (i:=1) rfl)
  have d1:=Hs.part (D1:=[_]) (R1:=[_]) d
  have w1:=l11Unl_loop (base:=base) (F:=F) (pb:=pb) (tb:=h.length) (P:=⟨P.code,cutA q P.acs,P.next,P.out⟩) (a:=a) (b:=a5) (g:=g) (lk:=rc) (lm:=P.acs[q].links.length) (v:=pid) (by show (cutA q P.acs).length≤_; omega) (fun A hA=>p3 A (cutA_mem hA)) (cutA q P.acs).length 0 hw S5 (by show 0 + (cutA q P.acs).length = (cutA q P.acs).length; omega) (by simpa using d1)
  refine W.wb w1 ?_
  rintro ⟨o1,o2,h6⟩ ⟨y1,y2,S6,d6⟩
  simp only at y1 y2 d6
  subst y1; subst y2
  have d:=Hs.back (D1:=[_]) (R1:=[_]) d d6 (fun r hr hm=>by simp only [List.mem_cons,List.not_mem_nil,or_false] at hr; subst hr; cases hm)
  have d:=d.frontR (Del.at (i:=1) rfl)
  refine W.ifT rfl ?_
  ((try simp only [n1,n2,n3,n4,n5,n6] at d); (with_reducible repeat first|refine W.a1 d ?_|refine W.a2 ?_|refine W.bo ?_))
  obtain ⟨a7,h7,e7,r7,k7,n7⟩:=specSay_run (base:=base) (f:=f) h6 So P.out g 3 pid p t k0 m0 s0 ta tl (d.rs (i:=2) rfl) p2 (d.rs (i:=0) rfl) hB (d.rlt (i:=2) rfl) (d.rlt (i:=0) rfl) d.ge
  have rowg : RowO base 140 6 (SdD f) So h6 P.out g:=d.rs (i:=2) rfl
  have d:=d.updO (SdD.kp _) (Upd.at (i:=2) rfl) rfl k7 r7 (fun b hb=>.inl (rowg.blkS b hb)) (fun b hb=>hb)
  refine W.bs e7 ?_
  ((try simp only [n1,n2,n3,n4,n5,n6] at d); (with_reducible repeat first|refine W.a2 ?_|refine W.bo ?_|refine W.a5 d fun hw d lw kw=>?_))
  have em : ((cutA q P.acs).map (unlk pid)).length = (cutA q P.acs).length:=List.length_map _
  have d : Hs base V h0 hw [(pb,36,plV a P.code.length a5 (cutA q P.acs).length P.next a7 (sayL P.out 3 pid t).length),(h.length,42,termV k0 m0 s0 ta tl)] [rIn p fun y=>TmR y p f t (termV k0 m0 s0 ta tl),rAs base F S6 ((cutA q P.acs).map (unlk pid)) a5,rSs base f (fun b=>So b∨(h6.length≤b∧b < h7.length)) (sayL P.out 3 pid t) a7,⟨C,true,fun x=>AcG base F C x P.acs[q] (chunk 5 q vs)⟩]:=d
  rw [← em] at d
  have hA : ∀ y,AcG base F C y P.acs[q] (chunk 5 q vs)→Sl y rc (iv .i64 P.acs[q].links):=fun y x=>by
   obtain ⟨_,_,rc',_,_,S3,ecs,_,_,q3,_⟩:=x
   rw [ech] at ecs
   injection ecs with _ ecs
   injection ecs with _ ecs
   injection ecs with _ ecs
   injection ecs with _ ecs
   injection ecs with ecs _
   injection ecs with ecs _ _
   subst ecs
   exact q3.sl
  have hPE : PE ⟨P.code,(cutA q P.acs).map (unlk pid),P.next,sayL P.out 3 pid t⟩:=by
   refine ⟨by show ((cutA q P.acs).map (unlk pid)).length≤_; omega,sayL_le p2,fun A hA=>?_⟩
   obtain ⟨B,hB,rfl⟩:=List.mem_map.1 hA
   exact Nat.le_trans dropI_len (p3 B (cutA_mem hB))
  refine W.wb (l11Ends_loop (base:=base) hB ih (A:=fun x=>AcG base F C x P.acs[q] (chunk 5 q vs)) hA (p3 _ (List.getElem_mem hi)) P.acs[q].links.length 0 hw a5 a7 S6 _ ⟨P.code,(cutA q P.acs).map (unlk pid),P.next,sayL P.out 3 pid t⟩ (by omega) (by show ((cutA q P.acs).map (unlk pid)).length≤_; omega) hPE d) ?_
  rintro ⟨o1,o2,h8⟩ ⟨y1,b8,g8,S8,So8,d8⟩
  simp only at y1 d8
  subst y1
  refine W.ifT rfl (W.ret ⟨rfl,b8,g8,S8,So8,?_⟩)
  have ee : endP (okA k0 m0 s0 tl) t (n + 1) pid P = if okA k0 m0 s0 tl = true then ⟨P.code,(cutA q P.acs).map (unlk pid),P.next,sayL P.out 3 pid t⟩ else (P.acs[q].links.drop 0).foldl (fun Q m=>endP (okA k0 m0 s0 tl) t n m Q) ⟨P.code,(cutA q P.acs).map (unlk pid),P.next,sayL P.out 3 pid t⟩:=by
   rw [endP,eq',if_neg c,Int.toNat_natCast,aD hi,List.drop_zero]
  rw [ee]
  have d9:=(d8.front (.there .here)).tl
  exact d9.takeR 3
def tagW (w : Int) : Int:=if w < 0 then 0 else w % 8
def valW (w : Int) : Int:=if w < 0 then 0 else w / 8
def mkW (t v : Int) : Int:=if inB t 0 6 = true then (if inB v 0 4000000 = true then t + 8 * v else 0) else 0
structure Gn where
 old : List Int
 young : List Int
 mark : Int
def wOk (n : Int) : Prop:=-9223372036854775808≤n∧n≤9223372036854775807
def Gn.Ok (G : Gn) : Prop:=G.old.length≤1048576∧G.young.length≤1048576∧(∀ n∈G.old,wOk n)∧∀ n∈G.young,wOk n
def ati (l : List Int) (p : Int) : Option Int:=if 0≤p then l[p.toNat]? else none
def gwd (G : Gn) (p : Int) : Option Int:=if 100000≤p then ati G.young (p - 100000) else ati G.old p
def rdS (G : Gn) (g : Int→Int→Option (Tm × Int)) : Nat→Int→Int→Option (List Tm × Int)
 | 0,_,c=>some ([],c)
 | n + 1,p,c=>(gwd G p).bind fun w=>(g w c).bind fun x=>(rdS G g n (p + 1) x.2).bind fun y=>some (x.1 :: y.1,y.2)
def rdL (G : Gn) (g : Int→Int→Option (Tm × Int)) : Nat→Int→Int→Option (List Tm × Int)
 | n,w,c=>if w = 3 then some ([],c) else
  match n with
  | 0=>none
  | n + 1=>if w < 0∨tagW w≠5 then none else (gwd G (valW w)).bind fun x=>(g x c).bind fun t=>(gwd G (valW w + 1)).bind fun w'=>(rdL G g n w' t.2).bind fun y=>some (t.1 :: y.1,y.2)
def rdB (G : Gn) : Nat→Int→Option (List Int)
 | 0,_=>some []
 | n + 1,p=>(gwd G p).bind fun w=>if inB w 0 255 = true then (rdB G n (p + 1)).bind fun y=>some (w :: y) else none
def rdT (chk : Tm→Bool) (G : Gn) (at_ : List ByteArray) : Nat→Int→Int→Option (Tm × Int)
 | 0,_,_=>none
 | f + 1,w,c=>
  if w < 0∨100≤c then none else
  ((if tagW w = 0 then (if valW w≤2000000 then some (Tm.mk 1 (valW w - 1000000) ⟨#[]⟩ [],c + 1) else none)
   else if tagW w = 1 then ((at_[(valW w).toNat]?).bind fun s=>some (Tm.mk 2 0 s [],c + 1))
   else if tagW w = 2 then some (Tm.mk 3 (valW w) ⟨#[]⟩ [],c + 1)
   else if tagW w = 4 then ((gwd G (valW w)).bind fun n=>if inB n 0 8 = true then (rdS G (rdT chk G at_ f) n.toNat (valW w + 1) (c + 1)).bind fun y=>some (Tm.mk 4 0 ⟨#[]⟩ y.1,y.2) else none)
   else if tagW w = 6 then ((gwd G (valW w)).bind fun n=>if inB n 0 40 = true then (rdB G n.toNat (valW w + 1)).bind fun y=>some (Tm.mk 6 0 (bstr y) [],c + 1) else none)
   else if tagW w = 7 then none
   else (rdL G (rdT chk G at_ f) 20 w (c + 1)).bind fun y=>some (Tm.mk 5 0 ⟨#[]⟩ y.1,y.2)) : Option (Tm × Int)).bind fun y=>if chk y.1 = true then some y else none
def chkI : Tm→Bool
 | .mk k n s l=>shB k n s l.length
def leadW (w : Int) : Bool:=inB (tagW w) 4 6
def prt (G : Gn) (p : Int) : Int:=if p < 100000 then 0 else if p - 100000 < G.mark then 1 else 2
theorem bstr_go (ns : List Int) : ∀ r : ByteArray,(ns.foldl (fun r n=>r.push (UInt8.ofNat n.toNat)) r).data.toList = r.data.toList++ns.map fun n=>UInt8.ofNat n.toNat:=by
 induction ns with
 | nil=>intro r; simp
 | cons n ns ih=>
  intro r
  rw [List.foldl_cons,ih]
  simp [ByteArray.push]
theorem bstr_data (ns : List Int) : (bstr ns).data.toList = ns.map fun n=>UInt8.ofNat n.toNat:=by
 unfold bstr
 rw [bstr_go]
 rfl
theorem bstr_size (ns : List Int) : (bstr ns).size = ns.length:=by
 have:=congrArg List.length (bstr_data ns)
 simpa using this
theorem sb_bstr {ns : List Int} (h : ∀ x∈ns,0≤x∧x≤255) : sb (bstr ns) = ns:=by
 unfold sb
 rw [bstr_data,List.map_map]
 conv=>rhs; rw [← List.map_id ns]
 apply List.map_congr_left
 intro x hx
 have:=h x hx
 simp only [Function.comp_apply,id_eq,UInt8.toNat_ofNat']
 omega
theorem toList_go (s : ByteArray) : ∀ (d i : Nat) (r : List UInt8),i + d = s.size→ByteArray.toList.loop s i r = r.reverse++s.data.toList.drop i:=by
 intro d
 induction d with
 | zero=>
  intro i r h
  rw [ByteArray.toList.loop,if_neg (by omega),List.drop_eq_nil_of_le (by simp; omega)]
  simp
 | succ d ih=>
  intro i r h
  have hlt : i < s.size:=by omega
  rw [ByteArray.toList.loop,if_pos hlt,ih (i + 1) _ (by omega)]
  have hl : i < s.data.toList.length:=by simpa using hlt
  rw [List.drop_eq_getElem_cons hl]
  simp [ByteArray.get!,hlt]
theorem toList_data (s : ByteArray) : s.toList = s.data.toList:=by
 unfold ByteArray.toList
 rw [toList_go s s.size 0 [] (by omega)]
 simp
theorem bstr_inj {xs ys : List Int} (hx : ∀ x∈xs,0≤x∧x≤255) (hy : ∀ x∈ys,0≤x∧x≤255) : ((bstr xs).toList == (bstr ys).toList) = decide (xs = ys):=by
 by_cases c : xs = ys
 ·subst c; simp
 ·rw [decide_eq_false c]
  rw [toList_data,toList_data]
  by_cases d : (bstr xs).data.toList = (bstr ys).data.toList
  ·exfalso
   apply c
   have e : bstr xs = bstr ys:=ByteArray.ext (Array.toList_inj.1 d)
   rw [← sb_bstr hx,← sb_bstr hy,e]
  ·exact beq_eq_false_iff_ne.2 d
def core (G : Gn) (ats : List ByteArray) (f : Nat) (w c : Int) : Option (Tm × Int):=
 if tagW w = 0 then (if valW w≤2000000 then some (Tm.mk 1 (valW w - 1000000) ⟨#[]⟩ [],c + 1) else none)
 else if tagW w = 1 then ((ats[(valW w).toNat]?).bind fun s=>some (Tm.mk 2 0 s [],c + 1))
 else if tagW w = 2 then some (Tm.mk 3 (valW w) ⟨#[]⟩ [],c + 1)
 else if tagW w = 4 then ((gwd G (valW w)).bind fun n=>if inB n 0 8 = true then (rdS G (rdT chkI G ats f) n.toNat (valW w + 1) (c + 1)).bind fun y=>some (Tm.mk 4 0 ⟨#[]⟩ y.1,y.2) else none)
 else if tagW w = 6 then ((gwd G (valW w)).bind fun n=>if inB n 0 40 = true then (rdB G n.toNat (valW w + 1)).bind fun y=>some (Tm.mk 6 0 (bstr y) [],c + 1) else none)
 else if tagW w = 7 then none
 else (rdL G (rdT chkI G ats f) 20 w (c + 1)).bind fun y=>some (Tm.mk 5 0 ⟨#[]⟩ y.1,y.2)
theorem Hs.takeD {base : Nat} {W : Fp} {h0 h : AH} {D : Ds} {R : List Rs} (d : Hs base W h0 h D R) (n : Nat) : Hs base W h0 h (D.take n) R:=
 ⟨d.ge,d.kb,fun x hx=>d.own x (List.mem_of_mem_take hx),by rw [List.map_take]; exact d.nd.sublist (List.take_sublist _ _),fun r hr=>by
  obtain ⟨r1,r2,r3,r4,r5⟩:=d.res r hr
  exact ⟨r1,r2,r3,r4,fun x hx=>r5 x (List.mem_of_mem_take hx)⟩,d.dj⟩
def wid (G : Gn) (w : Int) : Int:=if tagW w = 5 then 2 else (gwd G (valW w)).getD 0 + 1
structure Sw where
 old : List Int
 young : List Int
 wn : Int→Option Int
def Sw.len (σ : Sw) (o : Bool) : Nat:=if o = true then σ.old.length else σ.young.length
def Sw.app (σ : Sw) (o : Bool) (l : List Int) : Sw:=if o = true then ⟨σ.old++l,σ.young,σ.wn⟩ else ⟨σ.old,σ.young++l,σ.wn⟩
def Sw.set (σ : Sw) (o : Bool) (i : Nat) (x : Int) : Sw:=if o = true then ⟨σ.old.set i x,σ.young,σ.wn⟩ else ⟨σ.old,σ.young.set i x,σ.wn⟩
def Sw.put (σ : Sw) (p v : Int) : Sw:=⟨σ.old,σ.young,fun q=>if q = p then some v else σ.wn q⟩
def rawW (G : Gn) (w : Int) : List Int:=(List.range (wid G w).toNat).map fun (i : Nat)=>(gwd G (valW w + (i : Int))).getD 0
def isPt (w : Int) (i : Nat) : Bool:=tagW w == 5 || (tagW w == 4 && decide (0 < i))
def cpLoop (G : Gn) (w : Int) (o : Bool) (at_ : Nat) (go : Int→Sw→Int × Sw) : Nat→Nat→Sw→Sw
 | 0,_,σ=>σ
 | r + 1,i,σ=>
  if isPt w i = true then cpLoop G w o at_ go r (i + 1) ((go ((gwd G (valW w + (i : Int))).getD 0) σ).2.set o (at_ + i) (go ((gwd G (valW w + (i : Int))).getD 0) σ).1)
  else cpLoop G w o at_ go r (i + 1) (σ.set o (at_ + i) ((gwd G (valW w + (i : Int))).getD 0))
def plc (o : Bool) (n : Nat) : Int:=if o = true then (n : Int) else 100000 + (n : Int)
def toO (G : Gn) (all : Bool) (w : Int) : Bool:=all || prt G (valW w) == 1
def stay (G : Gn) (all : Bool) (w : Int) : Bool:=!leadW w || (prt G (valW w) == 0 && !all)
def cp (fill : Bool) (G : Gn) (all : Bool) : Nat→Int→Sw→Int × Sw
 | 0,w,σ=>(w,σ)
 | n + 1,w,σ=>if stay G all w = true then (w,σ) else
  match σ.wn (valW w) with
  | some v=>(mkW (tagW w) v,σ)
  | none=>(mkW (tagW w) (plc (toO G all w) (σ.len (toO G all w))),
    cpLoop G w (toO G all w) (σ.len (toO G all w)) (cp fill G all n) (wid G w).toNat 0
     ((σ.app (toO G all w) (if fill = true then rawW G w else List.replicate (wid G w).toNat 0)).put (valW w) (plc (toO G all w) (σ.len (toO G all w)))))
def AgL (D : Nat→Prop) (l m : List Int) : Prop:=l.length = m.length∧∀ i,¬ D i→l[i]? = m[i]?
structure Ag (D : Bool→Nat→Prop) (σ τ : Sw) : Prop where
 o : AgL (D true) σ.old τ.old
 y : AgL (D false) σ.young τ.young
 w : σ.wn = τ.wn
theorem AgL.mono {D E : Nat→Prop} {l m : List Int} (x : AgL D l m) (h : ∀ i,D i→E i) : AgL E l m:=⟨x.1,fun i hi=>x.2 i fun hd=>hi (h i hd)⟩
theorem Ag.mono {D E : Bool→Nat→Prop} {σ τ : Sw} (x : Ag D σ τ) (h : ∀ o i,D o i→E o i) : Ag E σ τ:=⟨x.o.mono (h true),x.y.mono (h false),x.w⟩
theorem AgL.set {D E : Nat→Prop} {l m : List Int} (x : AgL D l m) (j : Nat) (v : Int) (h : ∀ i,D i→i≠j→E i) : AgL E (l.set j v) (m.set j v):=by
 refine ⟨by simp [x.1],fun i hi=>?_⟩
 by_cases e : j = i
 ·subst e
  by_cases hj : j < l.length
  ·rw [List.getElem?_set_self hj,List.getElem?_set_self (by rw [← x.1]; exact hj)]
  ·rw [List.getElem?_eq_none (by simp; omega),List.getElem?_eq_none (by simp; rw [← x.1]; omega)]
 ·rw [List.getElem?_set_ne e,List.getElem?_set_ne e]
  exact x.2 i fun hd=>hi (h i hd (Ne.symm e))
theorem Ag.set {D E : Bool→Nat→Prop} {σ τ : Sw} (x : Ag D σ τ) (o : Bool) (j : Nat) (v : Int) (h : ∀ p i,D p i→¬ (p = o∧i = j)→E p i) : Ag E (σ.set o j v) (τ.set o j v):=by
 cases o
 ·exact ⟨x.o.mono fun i hi=>h true i hi (by simp),x.y.set j v fun i hi hne=>h false i hi (by simp; exact hne),x.w⟩
 ·exact ⟨x.o.set j v fun i hi hne=>h true i hi (by simp; exact hne),x.y.mono fun i hi=>h false i hi (by simp),x.w⟩
def plI (i : Nat) : Int:=if i < 1000 then (i : Int) else 100000 + ((i : Int) - 1000)
def gone (σ : Sw) : Nat:=(List.range 2000).countP fun i=>(σ.wn (plI i)).isSome
def Sw.In (σ : Sw) : Prop:=σ.old.length + σ.young.length≤1000 + 50 * gone σ
theorem Sw.In.set {σ : Sw} (x : σ.In) (o : Bool) (i : Nat) (v : Int) : (σ.set o i v).In:=by
 unfold Sw.In gone at x ⊢
 cases o <;> simpa [Sw.set] using x
structure Cx where
 pid : Int
 pc : Int
 regs : List Int
 box : List Int
 links : List Int
 home : Int
def Cx.Le (C : Cx) : Prop:=C.regs.length≤1048576∧C.box.length≤1048576∧C.links.length≤1048576
theorem Hs.appN {base t sz bytes i n m : Nat} {V S : Fp} {h0 h : AH} {D : Ds} {R : List Rs} {a : Option Addr} {olds new : List Value} {src : Option (List Value)} (d : Hs base V h0 h D R) (ei : R[i]? = some ⟨S,true,fun x=>Own base t x a olds⟩) (hS : ∀ b,blk a b→S b) (hn : olds.length = n * sz) (hsz : 0 < sz) (hs : src = some new) (h1 : (n + m) * bytes≤140737488355328) (h2 : n + m≤9223372036854775807) (hm : new.length = m * sz) :
  ∃ a' h',Am.app base h t sz bytes a n src m = some (.slice a' (n + m) (n + m),h')∧Hs base V h0 h' D (R.set i ⟨blk a',true,fun y=>Own base t y a' (olds++new)⟩)∧KB (blk a) h h':=by
 obtain ⟨a',h',e,o,k,q⟩:=Own.app (x:=d.rs ei) (bytes:=bytes) (m:=m) hn hsz hs d.ge h1 h2 hm
 refine ⟨a',h',e,d.upd (Upd.at ei) rfl rfl k (fun b hb=>.inl (hS b hb)) o (fun U y y' ky hs x=>x.keep ky hs) (fun b hb=>?_),k⟩
 rcases q with ⟨_,e,_⟩|q
 ·have hb : blk a' b:=hb
  rw [e] at hb
  exact .inl (hS b hb)
 ·have e:=q b hb
  have:=(o.lt hb).2
  exact .inr ⟨by omega,this⟩
abbrev rW (base : Nat) (a : Option Addr) (l : List Int) : Rs:=⟨blk a,true,fun y=>Own base 3 y a (iv .i64 l)⟩
theorem setAt_ivs {l : List Int} {j : Nat} {v : Int} (hj : j < l.length) : setAt (iv .i64 l) j [.int .i64 v] = iv .i64 (l.set j v):=by
 unfold setAt iv
 rw [List.set_eq_take_append_cons_drop,if_pos hj]
 simp
theorem Hs.setW {base i j : Nat} {V : Fp} {h0 h : AH} {D : Ds} {R : List Rs} {a : Option Addr} {l : List Int} {v : Int} (d : Hs base V h0 h D R) (ei : R[i]? = some (rW base a l)) (hj : j < l.length) :
  ∃ ad h',a = some ad∧Am.wr base h ad.block (ad.off + j) [.int .i64 v] = some h'∧Hs base V h0 h' D (R.set i (rW base a (l.set j v)))∧KB (blk a) h h':=by
 obtain ⟨ad,h',ea,ew,ow,kw,_⟩:=Own.wrA (d.rs ei : Own base 3 h a (iv .i64 l)) (i:=j) (new:=[.int .i64 v]) (by simp; omega) (by simp)
 rw [setAt_ivs hj] at ow
 exact ⟨ad,h',ea,ew,d.upd (r:=rW base a l) (r':=rW base a (l.set j v)) (Upd.at ei) rfl rfl kw (fun b hb=>.inl hb) ow (fun U y y' k hs z=>z.keep k hs) (fun b hb=>.inl hb),kw⟩
theorem Hs.extW {base i m : Nat} {V : Fp} {h0 h : AH} {D : Ds} {R : List Rs} {a : Option Addr} {l new : List Int} {src : Option (List Value)} (d : Hs base V h0 h D R) (ei : R[i]? = some (rW base a l)) (hs : src = some (iv .i64 new)) (hm : new.length = m) (hl : l.length + m≤1000000) :
  ∃ a' h',Am.app base h 3 1 8 a l.length src m = some (.slice a' (l.length + m) (l.length + m),h')∧Hs base V h0 h' D (R.set i (rW base a' (l++new)))∧KB (blk a) h h':=by
 obtain ⟨a',h',e,d,k⟩:=d.appN (i:=i) (n:=l.length) (m:=m) (sz:=1) (bytes:=8) ei (fun b hb=>hb) (by simp) (by decide) hs (by omega) (by omega) (by simp [hm])
 rw [iv_append] at d
 exact ⟨a',h',e,d,k⟩
theorem Hs.copyG {base b t bytes m : Nat} {V : Fp} {h0 h : AH} {D : Ds} {R : List Rs} {vs : List Value} {src : Option (List Value)} (d : Hs base V h0 h ((b,t,[]) :: D) R) (hs : src = some vs) (hm : vs.length = m) (h1 : m≤1048576 * 4) (hby : bytes≤16) :
  ∃ a' h',Am.app base h t 1 bytes (at0 b) 0 src m = some (.slice a' m m,h')∧Hs base V h0 h' D (R++[⟨blk a',true,fun y=>Own base t y a' vs⟩]):=by
 have d:=d.unbox (Del.at (i:=0) rfl)
 simp only [n5,n6] at d
 have hbm : (0 + m) * bytes≤140737488355328:=by
  have : (0 + m) * bytes≤(1048576 * 4) * 16:=Nat.mul_le_mul (by omega) hby
  omega
 obtain ⟨a2,h2,e2,d,k2⟩:=d.appN (i:=R.length) (n:=0) (m:=m) (sz:=1) (bytes:=bytes) (a:=at0 b) (t:=t) (olds:=[]) (S:=(· = b)) (by simp) (fun b hb=>(blk_at0.1 hb)) (by simp) (by decide) hs hbm (by omega) (by omega)
 simp only [List.nil_append,Nat.zero_add] at e2 d
 refine ⟨a2,h2,e2,?_⟩
 have e : ∀ (x y : Rs),(R++[x]).set R.length y = R++[y]:=by intro x y; simp
 rw [e] at d
 exact d
theorem raw_ivs {h : AH} {a : Option Addr} {l : List Int} (x : Sl h a (iv .i64 l)) : rawAt h a (l.length * 1) = some (iv .i64 l):=by
 have:=x.raw (iv_leaf _ _)
 simpa using this
theorem Hs.callR {base : Nat} {V : Fp} {h0 h h' : AH} {D D' : Ds} {R R' : List Rs} (d : Hs base V h0 h D R) (z : Hs base NoB h h' D' R') (hm : ∀ r∈R',r.mu = true) : Hs base V h0 h' D (R++R'):=by
 have d':=d.kN z.kb
 have hz : ∀ r∈R',∀ b,r.S b→h.length≤b∧b < h'.length:=fun r hr b hb=>by
  obtain ⟨_,_,x3,x4,_⟩:=z.res r hr
  exact ⟨(x4 (hm r hr) b hb).resolve_left fun h=>h,x3 b hb⟩
 refine ⟨d'.ge,d'.kb,d'.own,d'.nd,fun r hr=>?_,?_⟩
 ·rcases List.mem_append.1 hr with hr|hr
  ·exact d'.res r hr
  ·obtain ⟨x1,x2,x3,x4,_⟩:=z.res r hr
   refine ⟨x1,x2,x3,fun _ b hb=>.inr ?_,fun x hx hS=>?_⟩
   ·have:=(hz r hr b hb).1
    have:=d.kb.1
    omega
   ·have:=((d.own x hx).1.lt (blk_at0.2 rfl)).2
    have:=(hz r hr _ hS).1
    omega
 ·rw [List.pairwise_append]
  refine ⟨d'.dj,z.dj,fun r hr s hs e b h1 h2=>?_⟩
  have:=(d.res r hr).2.2.1 b h1
  have:=(hz s hs b h2).1
  omega
theorem Hs.subR {base : Nat} {V : Fp} {h0 h : AH} {D : Ds} {R R' : List Rs} (d : Hs base V h0 h D R) (u : R'.Sublist R) : Hs base V h0 h D R':=
 ⟨d.ge,d.kb,d.own,d.nd,fun r hr=>d.res r (u.subset hr),d.dj.sublist u⟩
theorem W.rj {β : Type} {Q : β→Prop} {h : AH} {zs : List Int} {a : Option Addr} (hs : Sl h a (iv .i64 zs)) {i : Nat} (hi : i < zs.length) {f : Int→Option β} (w : Wp (f zs[i]) Q) : Wp (a.bind fun ad=>((Am.cell h ad.block (ad.off + i * 1)).bind (getI .i64)).bind f) Q:=by
 obtain ⟨ad,rfl,g⟩:=int_get hs hi
 exact W.bs rfl (W.bI g w)
def kI (l : List Int) (v : Int) : Nat→Nat
 | 0=>0
 | k + 1=>if decide (l.getD k 0 > v) = true then kI l v k else k + 1
def addI (v : Int) (l : List Int) : List Int:=if hasI v l = true then l else l.take (kI l v l.length)++v :: l.drop (kI l v l.length)
theorem kI_le {l : List Int} {v : Int} : ∀ k,kI l v k≤k
 | 0=>Nat.le_refl _
 | k + 1=>by
  rw [kI]
  split
  ·exact Nat.le_succ_of_le (kI_le k)
  ·exact Nat.le_refl _
theorem mid_len {l : List Int} {k : Nat} {z : Int} (h : k≤l.length) : (l.take k++z :: l.drop k).length = l.length + 1:=by simp; omega
theorem mid_get {l : List Int} {k : Nat} {z : Int} (h : k < l.length) (h2 : k < (l.take (k + 1)++z :: l.drop (k + 1)).length) : (l.take (k + 1)++z :: l.drop (k + 1))[k] = l.getD k 0:=by
 rw [List.getElem_append_left (by simp; omega)]
 simp [h]
theorem mid_set {l : List Int} {k : Nat} {z : Int} (h : k < l.length) : (l.take (k + 1)++z :: l.drop (k + 1)).set (k + 1) (l.getD k 0) = l.take k++l.getD k 0 :: l.drop k:=by
 have e : l.take (k + 1) = l.take k++[l.getD k 0]:=by rw [List.take_add_one]; simp [h]
 have e2 : l.drop k = l.getD k 0 :: l.drop (k + 1):=by rw [List.drop_eq_getElem_cons h]; simp [h]
 rw [List.set_append_right _ _ (by simp; omega)]
 have : k + 1 - (l.take (k + 1)).length = 0:=by simp; omega
 rw [this,List.set_cons_zero,e,e2]
 simp
theorem mid_set0 {l : List Int} {k : Nat} {z v : Int} (h : k≤l.length) : (l.take k++z :: l.drop k).set k v = l.take k++v :: l.drop k:=by
 rw [List.set_append_right _ _ (by simp; omega)]
 have : k - (l.take k).length = 0:=by simp; omega
 rw [this,List.set_cons_zero]
theorem l11Add_loop {base : Nat} {v : Int} {l : List Int} {a : Option Addr} {V : Fp} {h0 : AH} (hl : l.length≤1000) : ∀ (k : Nat) (h : AH) (z : Int),k≤l.length→Hs base V h0 h [] [rW base a (l.take k++z :: l.drop k)] →
  Wp (loopL (B237_0 base) [some (.int .i64 v),some (.slice a (l.length + 1) (l.length + 1)),some (.int .i64 (k : Int))] h) fun o=>o.1 = 2∧o.2.1 = [some (.int .i64 v),some (.slice a (l.length + 1) (l.length + 1)),some (.int .i64 (kI l v k : Int))]∧∃ z',Hs base V h0 o.2.2 [] [rW base a (l.take (kI l v k)++z' :: l.drop (kI l v k))]:=by
 intro k
 induction k with
 | zero=>
  intro h z hk d
  suffices w : Wp (B237_0 base [some (.int .i64 v),some (.slice a (l.length + 1) (l.length + 1)),some (.int .i64 ((0 : Nat) : Int))] h) fun o=>o = (2,[some (.int .i64 v),some (.slice a (l.length + 1) (l.length + 1)),some (.int .i64 ((0 : Nat) : Int))],h) by
   obtain ⟨o,e,rfl⟩:=w
   exact ⟨_,loop_off (by decide) e,rfl,rfl,z,d⟩
  rw [B237_0_eq]
  refine W.join (W.ifF (by decide) (W.il ?_))
  ((with_reducible repeat refine W.a2 ?_))
  exact W.ifF (by decide) (W.ret rfl)
 | succ k ih=>
  intro h z hk d
  have el:=mid_len (z:=z) hk
  have hS : Sl h a (iv .i64 (l.take (k + 1)++z :: l.drop (k + 1))):=Own.sl (d.rs (i:=0) rfl : Own base 3 h a _)
  suffices w : Wp (B237_0 base [some (.int .i64 v),some (.slice a (l.length + 1) (l.length + 1)),some (.int .i64 ((k + 1 : Nat) : Int))] h) fun o=>if decide (l.getD k 0 > v) = true then o.1 = 0∧o.2.1 = [some (.int .i64 v),some (.slice a (l.length + 1) (l.length + 1)),some (.int .i64 (k : Int))]∧Hs base V h0 o.2.2 [] [rW base a (l.take k++l.getD k 0 :: l.drop k)] else o = (2,[some (.int .i64 v),some (.slice a (l.length + 1) (l.length + 1)),some (.int .i64 ((k + 1 : Nat) : Int))],h) by
   obtain ⟨⟨o1,o2,h'⟩,e,q⟩:=w
   rw [kI]
   by_cases c : decide (l.getD k 0 > v) = true
   ·rw [if_pos c] at q
    obtain ⟨y1,y2,d'⟩:=q
    simp only at y1 y2 d'
    subst y1; subst y2
    obtain ⟨o,eo,q⟩:=ih h' _ (by omega) d'
    refine ⟨o,loop_on e eo,?_⟩
    rw [if_pos c]
    exact q
   ·rw [if_neg c] at q
    injection q with q1 q2
    injection q2 with q2 q3
    subst q1; subst q2; subst q3
    rw [if_neg c]
    exact ⟨_,loop_off (by decide) e,rfl,rfl,z,d⟩
  rw [B237_0_eq]
  have e1 : IntKind.wrap .i64 (((k + 1 : Nat) : Int) - (1 : Int)) = (k : Int):=by
   rw [w64i (by omega) (by omega)]; omega
  refine W.join (W.ifT (by simp) ?_)
  rw [e1]
  refine W.ifT ⟨by omega,by omega⟩ ?_
  rw [Int.toNat_natCast]
  refine W.rj hS (by omega) ?_
  rw [mid_get hk]
  refine W.il ?_
  ((with_reducible repeat refine W.a2 ?_))
  refine W.ite (fun c=>?_) (fun c=>?_)
  ·show Wp (if 0≤IntKind.wrap .i64 (((k + 1 : Nat) : Int) - (1 : Int))∧_ then _ else _) _
   rw [e1]
   refine W.ifT ⟨by omega,by dsimp only; omega⟩ ?_
   rw [Int.toNat_natCast]
   refine W.rj hS (by omega) ?_
   rw [mid_get hk]
   refine W.ifT ⟨by omega,by dsimp only; omega⟩ ?_
   obtain ⟨ad,h2,ea,ew,d2,_⟩:=d.setW (i:=0) (j:=k + 1) (v:=l.getD k 0) rfl (by omega)
   subst ea
   rw [mid_set hk] at d2
   refine W.bo ?_
   rw [Int.toNat_natCast,Nat.mul_one]
   refine W.bs ew ?_
   exact W.ret (by rw [if_pos c]; exact ⟨rfl,rfl,d2⟩)
  ·exact W.ret (by rw [if_neg c])
theorem l11Add_run {base : Nat} {v : Int} {l : List Int} {a : Option Addr} {h : AH} (hl : l.length≤1000) (hs : Sl h a (iv .i64 l)) (hb : base≤h.length) :
  ∃ a' h',run (Et base) 237 [.slice a l.length l.length,.int .i64 v] h = some (.slice a' (addI v l).length (addI v l).length,h')∧KB NoB h h'∧((a' = a∧addI v l = l)∨(Own base 3 h' a' (iv .i64 (addI v l))∧∀ b,blk a' b→h.length≤b)):=by
 have d:=Hs.start hb
 suffices w : Wp (run (Et base) 237 [.slice a l.length l.length,.int .i64 v] h) fun o=>∃ a',o.1 = .slice a' (addI v l).length (addI v l).length∧KB NoB h o.2∧((a' = a∧addI v l = l)∨(Own base 3 o.2 a' (iv .i64 (addI v l))∧∀ b,blk a' b→h.length≤b)) by
  obtain ⟨⟨u,h'⟩,e,a',rfl,q⟩:=w
  exact ⟨a',h',e,q⟩
 refine W.of (fun r hx=>Am.r237 hx) ?_
 refine W.bs (l11Has_run (base:=base) (by omega) hs) ?_
 ((with_reducible repeat refine W.a2 ?_))
 unfold addI
 refine W.ite (fun c=>?_) (fun c=>?_)
 ·rw [if_pos c]
  exact W.ret ⟨a,rfl,KB.refl _ _,.inl ⟨rfl,rfl⟩⟩
 rw [if_neg c]
 ((refine W.nD d fun h3 d _ kh3=>?_))
 obtain ⟨a4,h4,e4,d⟩:=d.copyG (t:=3) (bytes:=8) (m:=l.length) (raw_ivs (hs.keepN kh3)) (by simp) (by omega) (by omega)
 refine W.bs e4 ?_
 ((try simp only [n1,n2,n3,n4,n5,n6] at d); (with_reducible repeat refine W.a2 ?_); (refine W.nD d fun h6 d _ kh6=>?_))
 obtain ⟨a7,h7,e7,d,k7⟩:=d.extW (i:=0) (m:=1) (new:=[v]) (l:=l) rfl (by
  have:=(d.ol (.head _) : Own base 3 h6 (at0 h4.length) [.int .i64 v]).sl.raw (by rfl)
  simpa [iv] using this) rfl (by omega)
 refine W.bs e7 ?_
 ((try simp only [n1,n2,n3,n4,n5,n6] at d); (with_reducible repeat refine W.a2 ?_))
 rw [show IntKind.wrap .i64 (((l.length + 1 : Nat) : Int) - (1 : Int)) = (l.length : Int) from by rw [w64i (by omega) (by omega)]; omega]
 have d : Hs base NoB h h7 [] [rW base a7 (l.take l.length++v :: l.drop l.length)]:=by
  have:=d.takeD 0
  rw [List.take_of_length_le (Nat.le_refl _),List.drop_of_length_le (Nat.le_refl _)]
  exact this
 refine W.wb (l11Add_loop (base:=base) (v:=v) hl l.length h7 v (Nat.le_refl _) d) ?_
 rintro ⟨q1,q2,h8⟩ ⟨y1,y2,z',d⟩
 simp only at y1 y2 d
 subst y1; subst y2
 have hk:=kI_le (l:=l) (v:=v) l.length
 generalize kI l v l.length = k at hk d ⊢
 have el:=mid_len (z:=z') hk
 refine W.ifT rfl ?_
 ((with_reducible repeat first|refine W.a2 ?_|refine W.a8 ?_))
 obtain ⟨ad,h9,ea,ew,d,_⟩:=d.setW (i:=0) (j:=k) (v:=v) rfl (by omega)
 subst ea
 rw [mid_set0 hk] at d
 refine W.bo ?_
 rw [Int.toNat_natCast,Nat.mul_one]
 refine W.bs ew ?_
 have el2:=mid_len (z:=v) hk
 have o9 : Own base 3 h9 (some ad) (iv .i64 (l.take k++v :: l.drop k)):=d.rs (i:=0) rfl
 exact W.ret (Exists.intro (some ad) (And.intro (by dsimp only; rw [el2]) (And.intro d.kb (Or.inr (And.intro o9 fun b hb=>(d.rfr (i:=0) rfl rfl b hb).resolve_left fun h=>h)))))
def setLk (v : Int) (A : Ac) : Ac:=⟨A.pid,A.pc,A.regs,A.box,addI v A.links⟩
theorem AcG.links {base F : Nat} {C : Fp} {h : AH} {A : Ac} {cs : List Value} (x : AcG base F C h A cs) : ∃ a,cs[4]? = some (.slice a A.links.length A.links.length)∧Own base 3 h a (iv .i64 A.links):=by
 obtain ⟨ra,rb,rc,S1,S2,S3,rfl,q1,q2,q3,_⟩:=x
 exact ⟨rc,rfl,q3⟩
theorem addLk {base F i : Nat} {v : Int} {acs : List Ac} {b : Option Addr} {S V : Fp} {h0 h : AH} {D : Ds} (d : Hs base V h0 h D [rAs base F S acs b]) (hi : i < acs.length) (hlk : acs[i].links.length≤1000) :
  ∃ ad lk a' h1 h2 S',b = some ad∧Am.cell h ad.block (ad.off + i * 5 + 4) = some (.slice lk acs[i].links.length acs[i].links.length)∧run (Et base) 237 [.slice lk acs[i].links.length acs[i].links.length,.int .i64 v] h = some (.slice a' (addI v acs[i].links).length (addI v acs[i].links).length,h1)∧Hs base V h0 h1 D [rAs base F S acs b]∧Am.wr base h1 ad.block (ad.off + i * 5 + 4) [.slice a' (addI v acs[i].links).length (addI v acs[i].links).length] = some h2∧Hs base V h0 h2 D [rAs base F S' (acs.set i (setLk v acs[i])) b]∧KB S h1 h2:=by
 have hSl:=d.rlt (i:=0) rfl
 have row : RowO base 54 5 (AcG base F) S h acs b:=d.rs (i:=0) rfl
 obtain ⟨C,csA,ad,hA,hcl,rfl,cells,hCS,hSb,hCb,mod⟩:=row.mod (AcG.kp _ _) (by decide) hi hSl
 obtain ⟨rc,e4,ol⟩:=hA.links
 obtain ⟨a2,h2,e2,k2,q2⟩:=l11Add_run (base:=base) (v:=v) hlk ol.sl d.ge
 have d1:=d.kN k2
 rcases q2 with ⟨rfl,ez⟩|⟨o2,f2⟩
 ·have es : setLk v acs[i] = acs[i]:=by unfold setLk; rw [ez]
  have ec : setAt csA 4 [.slice a2 acs[i].links.length acs[i].links.length] = csA:=by
   obtain ⟨ra,rb,rc',rfl⟩:=hA.form2
   simp only [acV,List.getElem?_cons_succ,List.getElem?_cons_zero] at e4
   injection e4 with e4
   simp only [acV,e4]
   rfl
  obtain ⟨h3,e3,r3,k3,z3⟩:=mod NoB C h2 csA [.slice a2 acs[i].links.length acs[i].links.length] 4 acs[i] k2 (fun b h=>(h : False).elim) (by simp) (by simp) ec.symm (fun h4 k4=>AcG.kp _ _ _ _ _ _ _ _ (KB.trans (T:=(· = ad.block)) k2 k4 (fun _ _ h=>(h : False).elim) fun _ _ h=>h) (fun b hb e=>hCb (e ▸ hb)) hA) (fun b hb _=>hb)
  refine ⟨ad,a2,a2,h2,h3,(fun b=>S b∨C b),rfl,cells 4 _ e4,e2,d1,by rw [ez]; exact e3,?_,k3.mono fun b _ h=>(show S b from (show b = ad.block from h) ▸ hSb)⟩
  rw [es]
  exact d1.upd (r':=rAs base F (fun b=>S b∨C b) (acs.set i acs[i]) (some ad)) (Upd.at (i:=0) rfl) rfl rfl k3 (fun b hb=>.inl ((show b = ad.block from hb) ▸ hSb)) r3 (fun U y y' ky hs x=>RowO.keep (AcG.kp _ _) x ky hs) (fun b hb=>.inl (hb.elim id (hCS b)))
 ·have d2:=d.call k2 (blk a2) (fun y=>Own base 3 y a2 (iv .i64 (addI v acs[i].links))) o2 (fun U y y' k hs x=>Own.keep x k hs) (fun b hb=>⟨f2 b hb,(o2.lt hb).2⟩)
  obtain ⟨h3,e3,r3,k3,z3⟩:=mod NoB (fun b=>C b∨blk a2 b) h2 _ [.slice a2 (addI v acs[i].links).length (addI v acs[i].links).length] 4 (setLk v acs[i]) k2 (fun b h=>(h : False).elim) (Nat.le_refl 5) (by simp) rfl (fun h4 k4=>AcG.setLinks hA (KB.trans (T:=(· = ad.block)) k2 k4 (fun _ _ h=>(h : False).elim) fun _ _ h=>h) (fun b hb e=>hCb (e ▸ hb)) ((d2.rs (i:=1) rfl : Own base 3 h2 a2 _).keep k4 fun b hb e=>by have:=f2 b hb; have:=hSl _ hSb; omega) (fun b hb hc=>by have:=f2 b hb; have:=hSl _ (hCS b hc); omega)) (fun b hb hs=>hb.resolve_right fun hc=>by have:=f2 b hc; have:=hSl _ hs; omega)
  refine ⟨ad,rc,a2,h2,h3,(fun b=>S b∨C b∨blk a2 b),rfl,cells 4 _ e4,e2,d1,e3,?_,k3.mono fun b _ h=>(show S b from (show b = ad.block from h) ▸ hSb)⟩
  exact (d2.joinO (AcG.kp _ _) (Upd.at (i:=1) rfl) (Upd.at (i:=0) rfl) rfl rfl (k3.mono fun b _ h=>h) r3 (fun b hb=>.inl (hb ▸ hSb)) (fun b hb=>hb.elim .inl fun hb=>hb.elim (fun hb=>.inl (hCS b hb)) fun hb=>.inr (.inl hb))).takeR 1
def linkB (pid other : Int) (acs : List Ac) : Bool:=
 if decide (atL other 0 acs < 0) = true then true else if (atL other 0 acs == atL pid 0 acs) = true then true
 else if decide (((acs.getD (atL pid 0 acs).toNat a0).links.length : Int) ≥ (50 : Int)) = true then true else decide (((acs.getD (atL other 0 acs).toNat a0).links.length : Int) ≥ (50 : Int))
def linkL (pid other : Int) (acs : List Ac) : List Ac:=
 if linkB pid other acs = true then acs else
  (acs.set (atL pid 0 acs).toNat (setLk other (acs.getD (atL pid 0 acs).toNat a0))).set (atL other 0 acs).toNat (setLk pid (acs.getD (atL other 0 acs).toNat a0))
theorem l11Link_run {base F pb : Nat} {P : Pl} {a b g : Option Addr} {S : Fp} {pid other : Int} {V : Fp} {h0 h : AH} (hn : P.acs.length≤1048576) (hlk : ∀ A∈P.acs,A.links.length≤1000) (hat : ¬ atL pid 0 P.acs < 0) (d : Hs base V h0 h [(pb,36,plV a P.code.length b P.acs.length P.next g P.out.length)] [rAs base F S P.acs b]) :
  Wp (run (Et base) 228 [.pointer (at0 pb),.int .i64 pid,.int .i64 other] h) fun r=>r.1 = .tuple #[]∧∃ S',Hs base V h0 r.2 [(pb,36,plV a P.code.length b P.acs.length P.next g P.out.length)] [rAs base F S' (linkL pid other P.acs) b]:=by
 refine W.of (fun r hx=>Am.r228 hx) ?_
 ((with_reducible repeat first|refine W.a1 d ?_|refine W.bo ?_))
 obtain ⟨h2,e2,k2⟩:=l11At_run (base:=base) (P:=P) (v:=pid) (a:=a) (g:=g) (by omega) (RowO.asR (d.rs (i:=0) rfl)) d.ge
 have d:=d.kN k2
 refine W.bs e2 ?_
 ((with_reducible repeat first|refine W.a1 d ?_|refine W.a2 ?_|refine W.bo ?_))
 obtain ⟨h3,e3,k3⟩:=l11At_run (base:=base) (P:=P) (v:=other) (a:=a) (g:=g) (by omega) (RowO.asR (d.rs (i:=0) rfl)) d.ge
 have d:=d.kN k3
 refine W.bs e3 ?_
 ((with_reducible repeat refine W.a2 ?_))
 have hlt:=atL_lt pid P.acs 0
 have hlt2:=atL_lt other P.acs 0
 have hi : (atL pid 0 P.acs).toNat < P.acs.length:=by omega
 apply W.jb (linkB pid other P.acs) d
 ·unfold linkB
  refine W.ite (fun c=>?_) (fun c=>?_)
  ·rw [if_pos c]
   exact W.lb rfl rfl (KB.refl _ _)
  rw [if_neg c]
  have c' : ¬ atL other 0 P.acs < 0:=by simpa using c
  have hj : (atL other 0 P.acs).toNat < P.acs.length:=by omega
  refine W.ite (fun c=>?_) (fun c=>?_)
  ·rw [if_pos c]
   exact W.lb rfl rfl (KB.refl _ _)
  rw [if_neg c]
  ((with_reducible repeat first|refine W.a1 d ?_|refine W.bo ?_|refine W.a8 ?_))
  obtain ⟨ad,x1,x2,x3,rfl,hbl,g0,g1,g2,g3,g4,hmm,hlk'⟩:=AsR.get (RowO.asR (d.rs (i:=0) rfl)) hi
  refine W.bs rfl (W.bS g4 ?_)
  rw [aD hi]
  refine W.ite (fun c=>?_) (fun c=>?_)
  ·rw [if_pos c]
   exact W.lb rfl rfl (KB.refl _ _)
  rw [if_neg c]
  ((with_reducible repeat first|refine W.a1 d ?_|refine W.bo ?_|refine W.a8 ?_))
  obtain ⟨ad2,x1,x2,x3,ead,hbl,g0,g1,g2,g3,g4',hmm,hlk''⟩:=AsR.get (RowO.asR (d.rs (i:=0) rfl)) hj
  injection ead with ead
  subst ead
  refine W.bS g4' ?_
  rw [aD hj]
  exact W.lb rfl rfl (KB.refl _ _)
 intro h4 d n4
 ((with_reducible repeat refine W.a2 ?_))
 unfold linkL
 refine W.ite (fun c=>?_) (fun c=>?_)
 ·rw [if_pos c]
  exact W.ret ⟨rfl,S,d⟩
 rw [if_neg c]
 unfold linkB at c
 have c1 : ¬ atL other 0 P.acs < 0:=fun h=>c (by rw [if_pos (decide_eq_true h)])
 have c2 : ¬ (atL other 0 P.acs == atL pid 0 P.acs) = true:=fun h=>c (by rw [if_neg (by simpa using c1),if_pos h])
 have hj : (atL other 0 P.acs).toNat < P.acs.length:=by omega
 have hne : (atL pid 0 P.acs).toNat≠(atL other 0 P.acs).toNat:=by
  intro h
  apply c2
  rw [beq_iff_eq]
  omega
 ((with_reducible repeat first|refine W.a1 d ?_|refine W.bo ?_|refine W.a8 ?_))
 obtain ⟨ad,lk,a5,h5,h6,S6,rfl,g4,e5,d5,e6,d6,k6⟩:=addLk (v:=other) d hi (hlk _ (List.getElem_mem hi))
 refine W.bo ?_
 refine W.bS g4 ?_
 refine W.bs e5 ?_
 have d:=d5
 ((with_reducible repeat first|refine W.a2 ?_|refine W.bo ?_|refine W.a6 d ?_|refine W.a8 ?_))
 refine W.bs e6 ?_
 have d:=d6
 have hj2 : (atL other 0 P.acs).toNat < (P.acs.set (atL pid 0 P.acs).toNat (setLk other P.acs[(atL pid 0 P.acs).toNat])).length:=by simpa using hj
 have ej : (P.acs.set (atL pid 0 P.acs).toNat (setLk other P.acs[(atL pid 0 P.acs).toNat]))[(atL other 0 P.acs).toNat] = P.acs[(atL other 0 P.acs).toNat]:=by
  rw [List.getElem_set_ne hne]
 ((with_reducible repeat first|refine W.a1 d ?_|refine W.bo ?_|refine W.a8 ?_))
 obtain ⟨ad2,lk2,a7,h7,h8,S8,ead,g4',e7,d7,e8,d8,k8⟩:=addLk (v:=pid) d hj2 (by rw [ej]; exact hlk _ (List.getElem_mem hj))
 injection ead with ead
 subst ead
 rw [ej] at g4' e7 e8 d8
 refine W.bS g4' ?_
 refine W.bs e7 ?_
 have d:=d7
 ((with_reducible repeat first|refine W.a2 ?_|refine W.bo ?_|refine W.a6 d ?_|refine W.a8 ?_))
 refine W.bs e8 ?_
 have d:=d8
 rw [aD hi,aD hj]
 exact W.ret ⟨rfl,S8,d⟩
theorem and255 (m : Int) : 0≤Go.bits .and .i64 m (255 : Int)∧Go.bits .and .i64 m (255 : Int)≤255:=by
 have h : ∀ x : BitVec 64,(x &&& BitVec.ofInt 64 (255 : Int)).toNat≤255:=fun x=>by
  rw [BitVec.toNat_and]
  exact Nat.le_trans Nat.and_le_right (by decide)
 have h1:=h (BitVec.ofInt 64 m)
 have e : Go.bits .and .i64 m (255 : Int) = IntKind.wrap .i64 ((BitVec.ofInt 64 m &&& BitVec.ofInt 64 (255 : Int)).toNat : Int):=rfl
 rw [e,w64i (by omega) (by omega)]
 omega
def CurR (base cb : Nat) (h : AH) : Prop:=∃ (a : Option Addr) (zs : List Int) (i hh : Int),Own base 154 h (at0 cb) [.slice a zs.length zs.length,.int .i64 i,.int .i64 hh]∧Sl h a (iv .u8 zs)∧(zs = []∨∀ b,blk a b→b < base)∧zs.length≤9223372036854775806∧0≤i
theorem CurR.keep {base cb : Nat} {U : Nat→Prop} {h h' : AH} (x : CurR base cb h) (k : KB U h h') (hU : ∀ b,U b→base≤b∧b≠cb) : CurR base cb h':=by
 obtain ⟨a,zs,i,hh,o,s,hz,hl,hi⟩:=x
 refine ⟨a,zs,i,hh,o.keep k fun b hb hu=>by rw [blk_at0] at hb; exact (hU b hu).2 hb,?_,hz,hl,hi⟩
 rcases hz with e|hz
 ·subst e; exact .inl rfl
 ·exact s.keep k fun b hb hu=>by have:=hz b hb; have:=(hU b hu).1; omega
theorem CurR.keepN {base cb : Nat} {h h' : AH} (x : CurR base cb h) (k : KB NoB h h') : CurR base cb h':=x.keep k fun _ h=>h.elim
theorem CurR.lt {base cb : Nat} {h : AH} (x : CurR base cb h) : base≤cb∧cb < h.length:=by
 obtain ⟨a,zs,i,hh,o,_⟩:=x
 exact o.lt (blk_at0.2 rfl)
theorem l1Byte_run {base cb : Nat} {h : AH} (x : CurR base cb h) : ∃ z h',run (Et base) 173 [.pointer (at0 cb)] h = some (.int .i64 z,h')∧0≤z∧z≤255∧CurR base cb h'∧KB (· = cb) h h'∧h'.length = h.length:=by
 have hlt:=x.lt
 obtain ⟨a,zs,i,hh,o,s,hz,hl,hi⟩:=x
 obtain ⟨h4,e4,o4,k4,n4⟩:=o.wr0 (i:=2) (new:=[.int .i64 (IntKind.wrap .i64 ((IntKind.wrap .i64 (hh * (6364136223846793005 : Int))) + (1442695040888963407 : Int)))]) (by simp) (by simp)
 generalize hg : IntKind.wrap .i64 ((IntKind.wrap .i64 (hh * (6364136223846793005 : Int))) + (1442695040888963407 : Int)) = hn at e4 o4
 have hset : setAt [.slice a zs.length zs.length,.int .i64 i,.int .i64 hh] 2 [.int .i64 hn] = [.slice a zs.length zs.length,.int .i64 i,Value.int .i64 hn]:=rfl
 rw [hset] at o4
 have s4 : Sl h4 a (iv .u8 zs):=by
  rcases hz with e|hz
  ·subst e; exact .inl rfl
  ·exact s.keep k4 fun b hb hu=>by have:=hz b hb; omega
 by_cases c : i < (zs.length : Int)
 ·obtain ⟨ad,rfl,g⟩:=s4.int (i:=i.toNat) (by omega)
  obtain ⟨h5,e5,o5,k5,n5⟩:=o4.wr0 (i:=1) (new:=[.int .i64 (IntKind.wrap .i64 (i + 1))]) (by simp) (by simp)
  have hset : setAt [.slice (some ad) zs.length zs.length,.int .i64 i,.int .i64 hn] 1 [.int .i64 (IntKind.wrap .i64 (i + 1))] = [.slice (some ad) zs.length zs.length,.int .i64 (IntKind.wrap .i64 (i + 1)),Value.int .i64 hn]:=rfl
  rw [hset] at o5
  have bz:=and255 (IntKind.wrap .i64 ((Go.bits .and .i64 (Go.bits .xor .i64 (Int.fdiv hn (2 ^ min ((33 : Int)).toNat 64)) (Int.fdiv hn (2 ^ min ((47 : Int)).toNat 64))) (255 : Int)) + (IntKind.wrap .i64 zs[i.toNat])))
  refine ⟨_,h5,Am.r173 (bs rfl (bI (o.at0 (i:=2) rfl) (bs rfl ?_))),bz.1,bz.2,⟨_,zs,IntKind.wrap .i64 (i + 1),hn,o5,?_,hz,hl,by rw [w64i (by omega) (by omega)]; omega⟩,KB.trans k4 k5 (fun _ _ h=>h) (fun _ _ h=>h),by omega⟩
  ·rw [hg]
   refine bs e4 (bs rfl (bI (o4.at0 (i:=2) rfl) (bs rfl (bI (o4.at0 (i:=2) rfl) ?_))))
   refine bj (q:=([some (.int .i64 (Go.bits .and .i64 (IntKind.wrap .i64 ((Go.bits .and .i64 (Go.bits .xor .i64 (Int.fdiv hn (2 ^ min ((33 : Int)).toNat 64)) (Int.fdiv hn (2 ^ min ((47 : Int)).toNat 64))) (255 : Int)) + (IntKind.wrap .i64 zs[i.toNat]))) (255 : Int)))],h5)) ?_ (bI rfl rfl)
   refine bs rfl (bI (o4.at0 (i:=1) rfl) (bs rfl (bS (o4.at0 (i:=0) rfl) (ifT (decide_eq_true c) (bs rfl (bS (o4.at0 (i:=0) rfl) (bs rfl (bI (o4.at0 (i:=1) rfl) (ifT ⟨hi,c⟩ (bs rfl ?_))))))))))
   rw [Nat.mul_one]
   exact bs g (bs rfl (bI (o4.at0 (i:=1) rfl) (bs rfl (bs e5 rfl))))
  ·rcases hz with e|hz
   ·subst e; exact .inl rfl
   ·exact s4.keep k5 fun b hb hu=>by have:=hz b hb; omega
 ·have bz:=and255 (Go.bits .xor .i64 (Int.fdiv hn (2 ^ min ((33 : Int)).toNat 64)) (Int.fdiv hn (2 ^ min ((47 : Int)).toNat 64)))
  refine ⟨_,h4,Am.r173 (bs rfl (bI (o.at0 (i:=2) rfl) (bs rfl ?_))),bz.1,bz.2,⟨_,zs,i,hn,o4,s4,hz,hl,hi⟩,k4,n4⟩
  rw [hg]
  refine bs e4 (bs rfl (bI (o4.at0 (i:=2) rfl) (bs rfl (bI (o4.at0 (i:=2) rfl) ?_))))
  refine bj (q:=([some (.int .i64 (Go.bits .and .i64 (Go.bits .xor .i64 (Int.fdiv hn (2 ^ min ((33 : Int)).toNat 64)) (Int.fdiv hn (2 ^ min ((47 : Int)).toNat 64))) (255 : Int)))],h4)) ?_ (bI rfl rfl)
  exact bs rfl (bI (o4.at0 (i:=1) rfl) (bs rfl (bS (o4.at0 (i:=0) rfl) (ifF (by simpa using c) rfl))))
theorem kC {cb : Nat} {a b c : AH} (x : KB (· = cb) a b) (y : KB (· = cb) b c) : KB (· = cb) a c:=KB.trans x y (fun _ _ h=>h) (fun _ _ h=>h)
theorem kCF {cb : Nat} {S : Nat→Prop} {a b c : AH} (x : KB (· = cb) a b) (y : KB S b c) (hS : ∀ i,S i→a.length≤i) : KB (· = cb) a c:=KB.trans x y (fun _ _ h=>h) (fun i hi hs=>by have:=hS i hs; omega)
theorem l1Below_run {base cb : Nat} {h : AH} {n : Int} (x : CurR base cb h) (hn : n≤256) : ∃ z h',run (Et base) 133 [.pointer (at0 cb),.int .i64 n] h = some (.int .i64 z,h')∧0≤z∧(0 < n→z < n)∧z≤255∧CurR base cb h'∧KB (· = cb) h h'∧h'.length = h.length:=by
 by_cases c : n≤0
 ·exact ⟨0,h,Am.r133 (ifT (decide_eq_true c) rfl),by omega,fun h=>by omega,by omega,x,KB.refl _ _,rfl⟩
 ·obtain ⟨z,h',e,z0,z1,x',k,l⟩:=l1Byte_run x
  have t0:=Int.tmod_nonneg n z0
  have t1 : Int.tmod z n < n:=Int.tmod_lt_of_pos z (by omega)
  refine ⟨Int.tmod z n,h',Am.r133 (ifF (by simpa using c) (ifT (decide_eq_true hn) (bs e (bI rfl (ifF (by omega) rfl))))),t0,fun _=>t1,?_,x',k,l⟩
  have t2:=Int.tmod_eq_emod_of_nonneg (b:=n) z0
  have t3 : z % n≤z:=by
   by_cases cc : z < n
   ·rw [Int.emod_eq_of_lt z0 cc]; omega
   ·omega
  omega
theorem l1Once_run {base cb : Nat} {h : AH} {n : Int} (x : CurR base cb h) (hn : n≤256) : ∃ b h',run (Et base) 156 [.pointer (at0 cb),.int .i64 n] h = some (.bool b,h')∧CurR base cb h'∧KB (· = cb) h h'∧h'.length = h.length:=by
 obtain ⟨z,h',e,_,_,_,x',k,l⟩:=l1Below_run (n:=n) x hn
 exact ⟨_,h',Am.r156 (bs e (bI rfl rfl)),x',k,l⟩
theorem l1Int_run {base cb : Nat} {h : AH} {a : Option Addr} {zs : List Int} (x : CurR base cb h) (s : Sl h a (iv .i64 zs)) (ha : ∀ b,blk a b→b≠cb) (h0 : 0 < zs.length) (h1 : zs.length≤256) : ∃ z h',run (Et base) 135 [.pointer (at0 cb),.slice a zs.length zs.length] h = some (.int .i64 z,h')∧z∈zs∧CurR base cb h'∧KB (· = cb) h h'∧h'.length = h.length:=by
 obtain ⟨z,h',e,z0,z1,_,x',k,l⟩:=l1Below_run (n:=(zs.length : Int)) x (by omega)
 have z2:=z1 (by omega)
 obtain ⟨ad,rfl,g⟩:=(s.keep k fun b hb hu=>ha b hb hu).int (i:=z.toNat) (by omega)
 have hz : z.toNat < zs.length:=by omega
 refine ⟨zs[z.toNat],h',Am.r135 (bs e (bI rfl (ifT ⟨z0,z2⟩ (bs rfl ?_)))),List.getElem_mem hz,x',k,l⟩
 rw [Nat.mul_one]
 exact bs g rfl
theorem l1Str_run {base cb : Nat} {h : AH} {a : Option Addr} {ss : List ByteArray} (x : CurR base cb h) (s : Sl h a (ss.map Value.string)) (ha : ∀ b,blk a b→b≠cb) (h0 : 0 < ss.length) (h1 : ss.length≤256) : ∃ z h',run (Et base) 172 [.pointer (at0 cb),.slice a ss.length ss.length] h = some (.string z,h')∧z∈ss∧CurR base cb h'∧KB (· = cb) h h'∧h'.length = h.length:=by
 obtain ⟨z,h',e,z0,z1,_,x',k,l⟩:=l1Below_run (n:=(ss.length : Int)) x (by omega)
 have z2:=z1 (by omega)
 obtain ⟨ad,rfl,g⟩:=(s.keep k fun b hb hu=>ha b hb hu).cell (i:=z.toNat) (v:=.string (ss[z.toNat]'(by omega))) (by simp)
 have hz : z.toNat < ss.length:=by omega
 refine ⟨ss[z.toNat],h',Am.r172 (bs e (bI rfl (ifT ⟨z0,z2⟩ (bs rfl ?_)))),List.getElem_mem hz,x',k,l⟩
 rw [Nat.mul_one]
 exact bT g rfl
theorem l1New_loop {base : Nat} {a : Option Addr} {zs : List Int} {h : AH} (hl : zs.length≤9223372036854775806) (s : Sl h a (iv .u8 zs)) : ∀ (d i : Nat) (k : Int),i + d = zs.length→∃ k',loopL (B78_0 base) [some (.slice a zs.length zs.length),some (.int .i64 k),some (.int .i64 (i : Int))] h = some (2,[some (.slice a zs.length zs.length),some (.int .i64 k')],h):=by
 intro d
 induction d with
 | zero=>
  intro i k hi
  refine ⟨k,loop_off (by decide) ?_⟩
  rw [B78_0_eq]
  refine bj (q:=([some (.slice a zs.length zs.length),some (.int .i64 k),some (.int .i64 (i : Int)),some (.bool false)],h)) (ifF (by simp; omega) rfl) ?_
  exact bS rfl (bI rfl (bI rfl (bB rfl (ifF (by decide) rfl))))
 | succ d ih=>
  intro i k hi
  by_cases c : (i : Int) < 4000
  ·obtain ⟨ad,rfl,g⟩:=s.int (i:=i) (by omega)
   obtain ⟨k',e⟩:=ih (i + 1) (Go.bits .and .i64 (IntKind.wrap .i64 ((IntKind.wrap .i64 ((IntKind.wrap .i64 (k * (137 : Int))) + (IntKind.wrap .i64 zs[i]))) + (11 : Int))) (1073741823 : Int)) (by omega)
   refine ⟨k',loop_on ?_ e⟩
   rw [B78_0_eq]
   refine bj (q:=([some (.slice (some ad) zs.length zs.length),some (.int .i64 k),some (.int .i64 (i : Int)),some (.bool true)],h)) (ifT (decide_eq_true (by omega)) (by rw [decide_eq_true c])) ?_
   refine bS rfl (bI rfl (bI rfl (bB rfl (ifT rfl (ifT ⟨by omega,by simp; omega⟩ (bs rfl ?_))))))
   simp only [Int.toNat_natCast,Nat.mul_one]
   refine bs g ?_
   rw [w64i (n:=(i : Int) + 1) (by omega) (by omega)]
   rfl
  ·refine ⟨k,loop_off (by decide) ?_⟩
   rw [B78_0_eq]
   refine bj (q:=([some (.slice a zs.length zs.length),some (.int .i64 k),some (.int .i64 (i : Int)),some (.bool false)],h)) (ifT (decide_eq_true (by omega)) (by rw [decide_eq_false c])) ?_
   exact bS rfl (bI rfl (bI rfl (bB rfl (ifF (by decide) rfl))))
theorem l1New_run {base : Nat} {h : AH} {a : Option Addr} {zs : List Int} (s : Sl h a (iv .u8 zs)) (hz : zs = []∨∀ b,blk a b→b < base) (hl : zs.length≤9223372036854775806) (hb : base≤h.length) :
  ∃ h',run (Et base) 78 [.slice a zs.length zs.length] h = some (.pointer (at0 h.length),h')∧CurR base h.length h'∧KB NoB h h'∧h'.length = h.length + 1:=by
 obtain ⟨k',e⟩:=l1New_loop (base:=base) hl s zs.length 0 (IntKind.wrap .i64 ((384384 : Int) + ((zs.length : Nat) : Int))) (by omega)
 rw [show ((0 : Nat) : Int) = 0 from rfl] at e
 obtain ⟨o1,k1,q1⟩:=box_own (base:=base) (t:=154) (h:=h) (cs:=[.slice a zs.length zs.length,.int .i64 0,.int .i64 k']) hb rfl
 generalize hh1 : h++[some (⟨[.slice a zs.length zs.length,.int .i64 0,.int .i64 k'],154⟩ : Blk)] = h1 at o1 k1 q1
 refine ⟨h1,Am.r78 (bs e (ifT rfl (bS rfl (bI rfl (lets fun y ey=>?_))))),⟨a,zs,0,k',o1,s.keepN k1,hz,hl,by omega⟩,k1,q1⟩
 rw [hh1] at ey
 subst ey
 rfl
def Tm.len : Tm→Nat
 | .mk _ _ _ l=>l.length
theorem leafD {base f : Nat} {S : Fp} {h : AH} {k n : Int} {s : ByteArray} (hs : s.size≤1048576) : TmG base (f + 1) S h (.mk k n s []) (termV k n s none 0)∧TmB (f + 1) (.mk k n s []):=
 ⟨⟨by simp only [maxLen]; omega,by simp [maxLen],none,rfl,RowO.nil⟩,hs,by simp,fun t h=>nomatch h⟩
theorem Hs.emp {base : Nat} {V : Fp} {h0 h : AH} {D : Ds} {R : List Rs} (d : Hs base V h0 h D R) (mu : Bool) (A : AH→Prop) (hA : A h) (ok : ∀ (U : Fp) (h h' : AH),KB U h h'→A h→A h') : Hs base V h0 h D (⟨fun _=>False,mu,A⟩ :: R):=
 ⟨d.ge,d.kb,d.own,d.nd,fun r hr=>by
  rcases List.mem_cons.1 hr with rfl|hr
  ·exact ⟨hA,fun U h h' k _ x=>ok U h h' k x,fun b hb=>hb.elim,fun _ b hb=>hb.elim,fun x _ hb=>hb.elim⟩
  ·exact d.res r hr,List.pairwise_cons.2 ⟨fun r hr _ b hb=>hb.elim,d.dj⟩⟩
def okT (t : Tm) : Bool:=match t with|.mk k n s l=>okA k n s l.length
def endE (t : Tm) (pid : Int) (P : Pl) : Pl:=endP (okT t) t P.acs.length pid P
def fullT : Tm:=.mk 2 0 ⟨#[102,117,108,108]⟩ []
def fullB (P : Pl) : Bool:=if decide ((P.acs.length : Int) ≥ (20 : Int)) = true then true else decide (P.next ≥ (90000 : Int))
def actP (F : Nat) (pid : Int) (x : Acd) (P : Pl) : Pl × Bool:=
 if (x.kind == (2 : Int)) = true then (P,false)
 else if (x.kind == (3 : Int)) = true then (⟨P.code,toldL x.pid x.t P.acs,P.next,P.out⟩,true)
 else if (x.kind == (4 : Int)) = true then
  if fullB P = true then (endE fullT pid P,false)
  else (⟨P.code,P.acs++[newA F x.pid x.pc x.t],IntKind.wrap .i64 (P.next + (1 : Int)),sayL P.out 1 x.pid x.t⟩,true)
 else if (x.kind == (5 : Int)) = true then (⟨P.code,P.acs,P.next,sayL P.out 2 pid x.t⟩,true)
 else if (x.kind == (6 : Int)) = true then (⟨P.code,linkL pid x.pid P.acs,P.next,P.out⟩,true)
 else if (x.kind == (7 : Int)) = true then (endE x.t pid P,false)
 else (P,true)
def ActQ (base F pb : Nat) (V : Fp) (h0 : AH) (p : Fp) (t : Tm) (tcs : List Value) (a : Option Addr) (n : Nat) (q : Pl × Bool) (r : Value × AH) : Prop:=
 r.1 = .bool q.2∧∃ b' g' S' So',Hs base V h0 r.2 [(pb,36,plV a n b' q.1.acs.length q.1.next g' q.1.out.length)] [rIn p fun y=>TmR y p F t tcs,rAs base F S' q.1.acs b',rSs base F So' q.1.out g']
theorem toldL_len {pid : Int} {t : Tm} {acs : List Ac} : (toldL pid t acs).length = acs.length:=by
 unfold toldL
 split <;> simp
theorem linkL_len {pid other : Int} {acs : List Ac} : (linkL pid other acs).length = acs.length:=by
 unfold linkL
 split <;> simp
def PSz (P : Pl) : Prop:=P.acs.length≤1000∧P.out.length≤1048576∧(∀ A∈P.acs,A.links.length≤1000)∧∀ A∈P.acs,A.box.length≤1048576
theorem PSz.e {P : Pl} (x : PSz P) : PE P:=⟨by have:=x.1; omega,x.2.1,fun A hA=>by have:=x.2.2.1 A hA; omega⟩
theorem l11Act_run {base f pb : Nat} {p : Fp} {P : Pl} {a b g : Option Addr} {S So : Fp} {pid : Int} {x : Acd} {k n : Int} {s : ByteArray} {l : List Tm} {ta : Option Addr} {V : Fp} {h0 h : AH} (et : x.t = .mk k n s l) (hP : PSz P) (hat : ¬ atL pid 0 P.acs < 0) (hB : TmB (f + 1) x.t) (d : Hs base V h0 h [(pb,36,plV a P.code.length b P.acs.length P.next g P.out.length)] [rIn p fun y=>TmR y p (f + 1) x.t (termV k n s ta l.length),rAs base (f + 1) S P.acs b,rSs base (f + 1) So P.out g]) :
  Wp (run (Et base) 210 [.pointer (at0 pb),.int .i64 pid,.agg (actV x.kind x.pid x.pc k n s ta l.length).toArray] h) (ActQ base (f + 1) pb V h0 p x.t (termV k n s ta l.length) a P.code.length (actP (f + 1) pid x P)):=by
 have hlen:=hP.1
 refine W.of (fun r hx=>Am.r210 hx) ?_
 ((refine W.nD d fun h1 d _ kh1=>?_); (with_reducible repeat refine W.a1 d ?_))
 have e0 : Hs base V h0 h1 [(pb,36,plV a P.code.length b P.acs.length P.next g P.out.length)] [rIn p fun y=>TmR y p (f + 1) x.t (termV k n s ta l.length),rAs base (f + 1) S P.acs b,rSs base (f + 1) So P.out g]:=d.tl
 unfold actP
 refine W.ite (fun c=>?_) (fun c=>?_)
 ·rw [if_pos c]
  exact W.ret ⟨rfl,b,g,S,So,e0⟩
 rw [if_neg c]
 refine W.ite (fun c=>?_) (fun c=>?_)
 ·rw [if_pos c]
  ((with_reducible repeat refine W.a1 d ?_))
  have d:=d.front (Del.at (i:=1) rfl)
  have d1:=Hs.part (D1:=[_]) (R1:=[_,_]) d
  refine W.wb (l11Told_run (base:=base) (by omega) hP.2.2.2 hB (Nat.le_refl _) d1) ?_
  rintro ⟨u,h2⟩ ⟨y1,S',d2⟩
  simp only at y1 d2
  subst y1
  have d:=Hs.back (D1:=[_]) (R1:=[_,_]) d d2 (fun r hr hm=>by
   simp only [List.mem_cons,List.not_mem_nil,or_false] at hr
   rcases hr with rfl|rfl
   ·exact ⟨_,.head _,hm,rfl⟩
   ·cases hm)
  ((try simp only [n1,n2,n3,n4,n5,n6] at d); (with_reducible repeat refine W.a2 ?_))
  refine W.ret ⟨rfl,b,g,S',So,?_⟩
  have d:=d.takeD 1
  dsimp only
  rw [toldL_len]
  exact d
 rw [if_neg c]
 refine W.ite (fun c=>?_) (fun c=>?_)
 ·rw [if_pos c]
  apply W.jb (fullB P) d
  ·unfold fullB
   ((with_reducible repeat first|refine W.a1 d ?_|refine W.bo ?_))
   refine W.ite (fun c=>?_) (fun c=>?_)
   ·rw [if_pos c]
    exact W.lb rfl rfl (KB.refl _ _)
   ·rw [if_neg c]
    ((with_reducible repeat first|refine W.a1 d ?_|refine W.bo ?_))
    exact W.lb rfl rfl (KB.refl _ _)
  intro h2 d n2
  ((with_reducible repeat refine W.a2 ?_))
  refine W.ite (fun c=>?_) (fun c=>?_)
  ·rw [if_pos c]
   obtain ⟨h3,e3,k3⟩:=l9Atom_run (base:=base) (h:=h2) (w:=(⟨#[102,117,108,108]⟩ : ByteArray)) d.ge
   have d:=d.kN k3
   refine W.bs e3 ?_
   ((with_reducible repeat refine W.a2 ?_))
   obtain ⟨tf,bf⟩:=leafD (base:=base) (f:=f) (S:=fun _=>False) (h:=h3) (k:=2) (n:=0) (s:=(⟨#[102,117,108,108]⟩ : ByteArray)) (by decide)
   have d:=d.front (Del.at (i:=1) rfl)
   have d:=d.frontR (Del.at (i:=2) rfl)
   have d:=d.frontR (Del.at (i:=2) rfl)
   have d:=d.emp false (fun y=>TmR y (fun _=>False) (f + 1) fullT (termV 2 0 ⟨#[102,117,108,108]⟩ none 0)) tf.tmR (fun U h h' k x=>TmR.keep k (fun _ h _=>h.elim) _ _ _ x)
   have d1:=Hs.part (D1:=[_]) (R1:=[_,_,_]) d
   refine W.wb (l11Ends_run (base:=base) (t:=fullT) bf P.acs.length P pid a b g S So _ _ _ (Nat.le_refl _) hP.e d1) ?_
   rintro ⟨u,h4⟩ ⟨y1,b',g',S',So',d4⟩
   simp only at y1 d4
   subst y1
   have d:=Hs.back (D1:=[_]) (R1:=[_,_,_]) d d4 (im3 rfl rfl rfl)
   ((try simp only [n1,n2,n3,n4,n5,n6] at d); (with_reducible repeat refine W.a3 ?_))
   obtain ⟨_,en⟩:=endP_code (okT fullT) fullT P.acs.length pid P
   refine W.ret ⟨rfl,b',g',S',So',?_⟩
   have d:=(d.takeD 1).frontR (Del.at (i:=3) rfl)
   have d:=d.subR (R':=[_,_,_]) ((List.Sublist.refl [_]).append (List.sublist_cons_self _ [_,_]))
   dsimp only
   unfold endE
   rw [en]
   exact d
  ·rw [if_neg c]
   have c20 : P.acs.length < 20∧¬ P.next ≥ 90000:=by
    unfold fullB at c
    split at c
    ·exact absurd rfl c
    ·rename_i c1
     simp at c c1
     omega
   ((with_reducible repeat first|refine W.a1 d ?_|refine W.bo ?_))
   have tr : TmR h2 p (f + 1) x.t (termV k n s ta l.length):=d.rs (i:=0) rfl
   obtain ⟨cs3,h3,e3,t3,k3⟩:=specNew_run (base:=base) (f:=f) h2 p x.t _ x.pid x.pc tr hB d.ge (d.rlt (i:=0) rfl)
   obtain ⟨x1,x2,x3,rfl⟩:=t3.form2
   have d:=d.callP (AcG.kp _ _) k3 t3
   refine W.bs e3 ?_
   ((with_reducible repeat first|refine W.a2 ?_|refine W.a6 d ?_|refine W.a7 ?_); (refine W.nD d fun h4 d _ kh4=>?_))
   obtain ⟨a5,h5,S5,e5,d,_,n5,_⟩:=d.app1 (i:=1) (j:=3) (bytes:=88) (AcG.kp _ _) rfl rfl (by decide) (.head _) rfl (by decide) rfl (by omega) (by omega)
   refine W.bs e5 ?_
   ((try simp only [n1,n2,n3,n4,n5,n6] at d); (with_reducible repeat first|refine W.a1 d ?_|refine W.a2 ?_|refine W.bo ?_|refine W.a5 d fun hw d lw kw=>?_))
   obtain ⟨a7,h7,e7,r7,k7,n7⟩:=specSay_run (base:=base) (f:=f + 1) hw So P.out g 1 x.pid p x.t k n s ta l.length (d.rs (i:=2) rfl) hP.2.1 (d.rs (i:=0) rfl) hB (d.rlt (i:=2) rfl) (d.rlt (i:=0) rfl) d.ge
   have rowg : RowO base 140 6 (SdD (f + 1)) So hw P.out g:=d.rs (i:=2) rfl
   obtain ⟨So2,eS⟩ : ∃ X : Fp,X = fun b=>So b∨(hw.length≤b∧b < h7.length):=⟨_,rfl⟩
   rw [← eS] at r7
   have d:=d.updO (SdD.kp _) (Upd.at (i:=2) rfl) rfl k7 r7 (fun b hb=>.inl (rowg.blkS b hb)) (fun b hb=>by rw [eS] at hb; exact hb)
   refine W.bs e7 ?_
   ((try simp only [n1,n2,n3,n4,n5,n6] at d); (with_reducible repeat first|refine W.a2 ?_|refine W.bo ?_|refine W.a5 d fun hw d lw kw=>?_))
   refine W.ret ⟨rfl,a5,a7,S5,So2,?_⟩
   have d:=d.front (Del.at (i:=2) rfl)
   have d:=(d.takeD 1).takeR 3
   dsimp only
   rw [List.length_append]
   exact d
 rw [if_neg c]
 refine W.ite (fun c=>?_) (fun c=>?_)
 ·rw [if_pos c]
  ((with_reducible repeat first|refine W.a1 d ?_|refine W.bo ?_))
  obtain ⟨a7,h7,e7,r7,k7,n7⟩:=specSay_run (base:=base) (f:=f + 1) h1 So P.out g 2 pid p x.t k n s ta l.length (d.rs (i:=2) rfl) hP.2.1 (d.rs (i:=0) rfl) hB (d.rlt (i:=2) rfl) (d.rlt (i:=0) rfl) d.ge
  have rowg : RowO base 140 6 (SdD (f + 1)) So h1 P.out g:=d.rs (i:=2) rfl
  have d:=d.updO (SdD.kp _) (Upd.at (i:=2) rfl) rfl k7 r7 (fun b hb=>.inl (rowg.blkS b hb)) (fun b hb=>hb)
  refine W.bs e7 ?_
  ((try simp only [n1,n2,n3,n4,n5,n6] at d); (with_reducible repeat first|refine W.a2 ?_|refine W.bo ?_|refine W.a5 d fun hw d lw kw=>?_))
  refine W.ret ⟨rfl,b,a7,S,(fun b=>So b∨(h1.length≤b∧b < h7.length)),?_⟩
  have d:=d.front (Del.at (i:=1) rfl)
  exact d.takeD 1
 rw [if_neg c]
 refine W.ite (fun c=>?_) (fun c=>?_)
 ·rw [if_pos c]
  ((with_reducible repeat refine W.a1 d ?_))
  have d:=d.front (Del.at (i:=1) rfl)
  have d:=d.frontR (Del.at (i:=1) rfl)
  have d1:=Hs.part (D1:=[_]) (R1:=[_]) d
  refine W.wb (l11Link_run (base:=base) (by omega) hP.2.2.1 hat d1) ?_
  rintro ⟨u,h2⟩ ⟨y1,S',d2⟩
  simp only at y1 d2
  subst y1
  have d:=Hs.back (D1:=[_]) (R1:=[_]) d d2 (fun r hr hm=>by
   simp only [List.mem_cons,List.not_mem_nil,or_false] at hr
   subst hr
   cases hm)
  ((try simp only [n1,n2,n3,n4,n5,n6] at d); (with_reducible repeat refine W.a3 ?_))
  refine W.ret ⟨rfl,b,g,S',So,?_⟩
  have d:=(d.takeD 1).frontR (Del.at (i:=1) rfl)
  dsimp only
  rw [linkL_len]
  exact d
 rw [if_neg c]
 refine W.ite (fun c=>?_) (fun c=>?_)
 ·rw [if_pos c]
  ((with_reducible repeat refine W.a1 d ?_))
  have d:=d.front (Del.at (i:=1) rfl)
  have d1:=Hs.part (D1:=[_]) (R1:=[_,_,_]) d
  refine W.wb (l11Ends_run (base:=base) (t:=x.t) hB P.acs.length P pid a b g S So _ _ _ (Nat.le_refl _) hP.e d1) ?_
  rintro ⟨u,h4⟩ ⟨y1,b',g',S',So',d4⟩
  simp only at y1 d4
  subst y1
  have d:=Hs.back (D1:=[_]) (R1:=[_,_,_]) d d4 (im3 rfl rfl rfl)
  ((try simp only [n1,n2,n3,n4,n5,n6] at d); (with_reducible repeat refine W.a3 ?_))
  have eo : okT x.t = okA k n s l.length:=by rw [et]; rfl
  obtain ⟨_,en⟩:=endP_code (okT x.t) x.t P.acs.length pid P
  refine W.ret ⟨rfl,b',g',S',So',?_⟩
  have d:=d.takeD 1
  dsimp only
  unfold endE
  rw [en,eo]
  exact d
 rw [if_neg c]
 exact W.ret ⟨rfl,b,g,S,So,e0⟩
theorem lkS_congr {g g' : Tm→Int→Int→Int} : ∀ (l : List Tm) (d x : Int),(∀ t∈l,∀ x,g t d x = g' t d x)→lkS g l d x = lkS g' l d x
 | [],_,_,_=>rfl
 | t :: r,d,x,h=>by
  rw [lkS,lkS,h t (.head _) x]
  split
  ·exact lkS_congr r d _ fun t ht=>h t (.tail _ ht)
  ·rfl
theorem lk_fuel : ∀ (f : Nat) (t : Tm) (d x : Int),d≤(f : Int)→lk (f + 1) t d x = lk f t d x
 | 0,.mk k n s l,d,x,h=>by rw [lk,lk,if_pos (.inl (by omega))]
 | f + 1,.mk k n s l,d,x,h=>by
  rw [lk,lk]
  split
  ·rfl
  ·exact lkS_congr l _ _ fun t _ x=>lk_fuel f t (d - 1) x (by omega)
theorem tOk_fuel {F : Nat} (h : 6≤F) (t : Tm) : tOk (F + 1) t = tOk F t:=by
 unfold tOk
 rw [lk_fuel F t 6 100 (by omega)]
theorem tsB_iff {f : Nat} : ∀ {l : List Tm},tsB f l = true↔∀ t∈l,tOk f t = true
 | []=>⟨fun _ t ht=>(nomatch ht),fun _=>rfl⟩
 | x :: r=>by
  rw [tsB,Bool.and_eq_true,tsB_iff]
  exact ⟨fun ⟨h1,h2⟩ t ht=>by rcases List.mem_cons.1 ht with rfl|ht; exact h1; exact h2 t ht,fun h=>⟨h x (.head _),fun t ht=>h t (.tail _ ht)⟩⟩
theorem inB_iff {x a b : Int} : inB x a b = true↔a≤x∧x≤b:=by
 unfold inB
 simp
theorem lkAny_iff {zs : List Int} {v : Int} : ∀ d i,lkAny zs v d i = false↔∀ j,i≤j→j < i + d→lkBad zs v j = false
 | 0,i=>⟨fun _ j h1 h2=>by omega,fun _=>rfl⟩
 | d + 1,i=>by
  rw [lkAny,Bool.or_eq_false_iff,lkAny_iff d (i + 1)]
  refine ⟨fun ⟨h1,h2⟩ j h3 h4=>?_,fun h=>⟨h i (Nat.le_refl _) (by omega),fun j h3 h4=>h j (by omega) (by omega)⟩⟩
  by_cases e : j = i
  ·rw [e]; exact h1
  ·exact h2 j (by omega) (by omega)
theorem lkBad_iff {zs : List Int} {v : Int} {j : Nat} : lkBad zs v j = false↔(1≤zs.getD j 0∧zs.getD j 0≤99999)∧zs.getD j 0≠v∧(0 < j→zs.getD (j - 1) 0 < zs.getD j 0):=by
 unfold lkBad
 by_cases c1 : inB (zs.getD j 0) 1 99999 = true
 ·rw [c1,if_neg (by decide)]
  rw [inB_iff] at c1
  by_cases c2 : (zs.getD j 0 == v) = true
  ·rw [if_pos c2]
   simp at c2 ⊢
   intro _ _ h
   exact absurd c2 h
  ·rw [if_neg c2]
   have c2' : zs.getD j 0≠v:=by simpa using c2
   split
   ·rename_i c3
    have c3 : (j : Int) > 0:=of_decide_eq_true c3
    rw [decide_eq_false_iff_not]
    exact ⟨fun h=>⟨c1,c2',fun _=>by omega⟩,fun h=>by have:=h.2.2 (by omega); omega⟩
   ·rename_i c3
    have c3 : ¬ (j : Int) > 0:=fun h=>c3 (decide_eq_true h)
    exact ⟨fun _=>⟨c1,c2',fun h=>by omega⟩,fun _=>rfl⟩
 ·rw [if_pos (by simpa using c1)]
  rw [inB_iff] at c1
  exact ⟨fun h=>(nomatch h),fun h=>absurd h.1 c1⟩
theorem pw_of {zs : List Int} (h : ∀ j,0 < j→j < zs.length→zs.getD (j - 1) 0 < zs.getD j 0) : zs.Pairwise (· < ·):=by
 rw [List.pairwise_iff_getElem]
 have key : ∀ j i,i < j→j < zs.length→zs.getD i 0 < zs.getD j 0:=by
  intro j
  induction j with
  | zero=>intro i hi; omega
  | succ j ih=>
   intro i hi hj
   have h1:=h (j + 1) (by omega) hj
   rw [Nat.add_sub_cancel] at h1
   by_cases e : i = j
   ·rw [e]; exact h1
   ·have:=ih i (by omega) (by omega)
    omega
 intro i j hi hj hij
 have:=key j i hij hj
 simpa [hi,hj] using this
theorem lkOk_iff {zs : List Int} {v : Int} : lkOk zs v = true↔zs.length≤50∧(∀ n∈zs,(1≤n∧n≤99999)∧n≠v)∧zs.Pairwise (· < ·):=by
 unfold lkOk
 rw [Bool.and_eq_true,Bool.not_eq_true',lkAny_iff,decide_eq_true_iff]
 constructor
 ·rintro ⟨h1,h2⟩
  have h1 : ∀ j,j < zs.length→_:=fun j hj=>lkBad_iff.1 (h1 j (Nat.zero_le _) (by omega))
  refine ⟨by omega,fun n hn=>?_,pw_of fun j h0 hj=>(h1 j hj).2.2 h0⟩
  obtain ⟨j,hj,rfl⟩:=List.mem_iff_getElem.1 hn
  have:=h1 j hj
  simp only [List.getD_eq_getElem?_getD,List.getElem?_eq_getElem hj,Option.getD_some] at this
  exact ⟨this.1,this.2.1⟩
 ·rintro ⟨h1,h2,h3⟩
  refine ⟨fun j _ hj=>lkBad_iff.2 ?_,by omega⟩
  have hj : j < zs.length:=by omega
  have e : zs.getD j 0 = zs[j]:=by simp [hj]
  obtain ⟨q1,q2⟩:=h2 _ (List.getElem_mem hj)
  rw [e]
  refine ⟨q1,q2,fun h0=>?_⟩
  have hj' : j - 1 < zs.length:=by omega
  have e' : zs.getD (j - 1) 0 = zs[j - 1]:=by simp [hj']
  rw [e']
  exact List.pairwise_iff_getElem.1 h3 (j - 1) j hj' hj (by omega)
theorem hasI_iff {v : Int} : ∀ {l : List Int},hasI v l = true↔v∈l
 | []=>⟨fun h=>(nomatch h),fun h=>(nomatch h)⟩
 | x :: r=>by
  rw [hasI,List.mem_cons]
  by_cases c : x = v
  ·simp [c]
  ·have:=hasI_iff (v:=v) (l:=r)
   simp [c,this]
   exact fun h=>absurd h.symm c
theorem kI_spec {l : List Int} {v : Int} : ∀ K,(kI l v K = 0∨l.getD (kI l v K - 1) 0≤v)∧∀ j,kI l v K≤j→j < K→l.getD j 0 > v
 | 0=>⟨.inl rfl,fun j _ h=>by omega⟩
 | K + 1=>by
  rw [kI]
  split
  ·rename_i c
   obtain ⟨h1,h2⟩:=kI_spec (l:=l) (v:=v) K
   refine ⟨h1,fun j h3 h4=>?_⟩
   by_cases e : j = K
   ·rw [e]; exact of_decide_eq_true c
   ·exact h2 j h3 (by omega)
  ·rename_i c
   have c : ¬ l.getD K 0 > v:=fun h=>c (decide_eq_true h)
   refine ⟨.inr ?_,fun j h3 h4=>by omega⟩
   rw [Nat.add_sub_cancel]
   omega
theorem addI_mem {v n : Int} {l : List Int} : n∈addI v l↔n = v∨n∈l:=by
 unfold addI
 split
 ·rename_i c
  have:=hasI_iff.1 c
  exact ⟨.inr,fun h=>h.elim (fun h=>h ▸ this) id⟩
 ·rw [List.mem_append,List.mem_cons]
  constructor
  ·rintro (h|h|h)
   ·exact .inr (List.mem_of_mem_take h)
   ·exact .inl h
   ·exact .inr (List.mem_of_mem_drop h)
  ·rintro (h|h)
   ·exact .inr (.inl h)
   ·rw [← List.take_append_drop (kI l v l.length) l,List.mem_append] at h
    exact h.elim .inl fun h=>.inr (.inr h)
theorem addI_len {v : Int} {l : List Int} : (addI v l).length≤l.length + 1:=by
 unfold addI
 split
 ·omega
 ·rw [mid_len (kI_le _)]
  exact Nat.le_refl _
theorem addI_ok {v p : Int} {l : List Int} (h : lkOk l p = true) (hv : 1≤v∧v≤99999) (hne : v≠p) (hl : l.length < 50) : lkOk (addI v l) p = true:=by
 obtain ⟨h1,h2,h3⟩:=lkOk_iff.1 h
 refine lkOk_iff.2 ⟨by have:=addI_len (v:=v) (l:=l); omega,fun n hn=>?_,?_⟩
 ·rcases addI_mem.1 hn with rfl|hn
  ·exact ⟨hv,hne⟩
  ·exact h2 n hn
 ·unfold addI
  split
  ·exact h3
  ·rename_i c
   have hnot : v ∉ l:=fun h=>c (hasI_iff.2 h)
   obtain ⟨k1,k2⟩:=kI_spec (l:=l) (v:=v) l.length
   have k3:=kI_le (l:=l) (v:=v) l.length
   generalize kI l v l.length = k at k1 k2 k3
   have hb : ∀ b∈l.drop k,v < b:=fun b hb=>by
    obtain ⟨j,hj,rfl⟩:=List.mem_iff_getElem.1 hb
    rw [List.length_drop] at hj
    have:=k2 (k + j) (by omega) (by omega)
    rw [List.getElem_drop]
    have hkj : k + j < l.length:=by omega
    simpa [hkj] using this
   have ha : ∀ a∈l.take k,a < v:=fun a ha=>by
    obtain ⟨j,hj,rfl⟩:=List.mem_iff_getElem.1 ha
    rw [List.length_take] at hj
    rw [List.getElem_take]
    have hk1 : k - 1 < l.length:=by omega
    have h4 : l[k - 1]≤v:=by
     rcases k1 with k1|k1
     ·omega
     ·simpa [hk1] using k1
    have h5 : l[j]'(by omega)≤l[k - 1]:=by
     by_cases e : j = k - 1
     ·subst e; exact Int.le_refl _
     ·exact Int.le_of_lt (List.pairwise_iff_getElem.1 h3 j (k - 1) (by omega) hk1 (by omega))
    have h6 : l[j]'(by omega)≠v:=fun e=>hnot (e ▸ List.getElem_mem _)
    omega
   rw [List.pairwise_append]
   refine ⟨h3.sublist (List.take_sublist _ _),List.pairwise_cons.2 ⟨hb,h3.sublist (List.drop_sublist _ _)⟩,fun a h4 b h5=>?_⟩
   have:=ha a h4
   rcases List.mem_cons.1 h5 with rfl|h5
   ·exact this
   ·have:=hb b h5
    omega
theorem dropI_mem {v n : Int} {l : List Int} : n∈dropI v l↔n∈l∧n≠v:=by
 unfold dropI
 simp
theorem dropI_ok {v p : Int} {l : List Int} (h : lkOk l p = true) : lkOk (dropI v l) p = true:=by
 obtain ⟨h1,h2,h3⟩:=lkOk_iff.1 h
 exact lkOk_iff.2 ⟨Nat.le_trans dropI_len h1,fun n hn=>h2 n (dropI_mem.1 hn).1,h3.sublist List.filter_sublist⟩
theorem atL_spec (v : Int) : ∀ (l : List Ac) (i : Nat),(atL v i l = -1∧∀ A∈l,A.pid≠v)∨∃ j,∃ hj : j < l.length,atL v i l = ((i + j : Nat) : Int)∧l[j].pid = v
 | [],i=>.inl ⟨rfl,fun A hA=>(nomatch hA)⟩
 | x :: r,i=>by
  rw [atL]
  split
  ·rename_i c
   exact .inr ⟨0,by simp,by simp,by simpa using c⟩
  ·rename_i c
   rcases atL_spec v r (i + 1) with ⟨h1,h2⟩|⟨j,hj,h1,h2⟩
   ·exact .inl ⟨h1,fun A hA=>by rcases List.mem_cons.1 hA with rfl|hA; simpa using c; exact h2 A hA⟩
   ·exact .inr ⟨j + 1,by simp; omega,by rw [h1]; omega,by simpa using h2⟩
theorem acOk_iff {f : Nat} {l : List In} {A : Ac} : acOk f l A = true↔codeOk l = true∧(1≤A.pid∧A.pid≤99999)∧(0≤A.pc∧A.pc < (l.length : Int))∧A.regs.length = 8∧(∀ t∈A.regs,tOk f t = true)∧A.box.length≤30∧(∀ t∈A.box,tOk f t = true)∧lkOk A.links A.pid = true:=by
 unfold acOk
 simp only [Bool.and_eq_true,decide_eq_true_eq,beq_iff_eq,tsB_iff,inB_iff]
 constructor
 ·rintro ⟨h1,h2,h3,h4,h5,h6,h7,h8⟩
  have:=codeOk_spec h1
  rw [w64i (by omega) (by omega)] at h3
  exact ⟨h1,h2,⟨h3.1,by omega⟩,by omega,h5,by omega,h7,h8⟩
 ·rintro ⟨h1,h2,h3,h4,h5,h6,h7,h8⟩
  have:=codeOk_spec h1
  rw [w64i (by omega) (by omega)]
  exact ⟨h1,h2,⟨h3.1,by omega⟩,by omega,h5,by omega,h7,h8⟩
end Go.Proofs.Ytkdenmdijdmnjaa.Am
