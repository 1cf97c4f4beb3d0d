/- What the functions of this law compute, lemma by lemma, up to the law.
Conditions: none. -/
import Derived.Test.YtjmkbglnjklbcaaP1
import Derived.IntWalk
import Derived.Laws.BitsLemmas

set_option linter.unusedSimpArgs false
set_option linter.unusedVariables false
namespace Go.Proofs.Ytjmkbglnjklbcaa.Am
open Go Go.RowKit
structure Cx where
 pid : Int
 pc : Int
 regs : List Int
 box : List Int
 links : List Int
 home : Int
def CxS (h : AH) (r b l : Option Addr) (C : Cx) : Prop := Sl h r (iv .i64 C.regs) ∧ Sl h b (iv .i64 C.box) ∧ Sl h l (iv .i64 C.links)
def CxO (base : Nat) (r b l : Option Addr) (C : Cx) (h : AH) : Prop := InO base r C.regs h ∧ InO base b C.box h ∧ InO base l C.links h
theorem CxS.keepN {h h' : AH} {r b l : Option Addr} {C : Cx} (x : CxS h r b l C) (k : KB NoB h h') : CxS h' r b l C := ⟨x.1.keepN k, x.2.1.keepN k, x.2.2.keepN k⟩
theorem CxO.cl {base : Nat} {h : AH} {r b l : Option Addr} {C : Cx} (x : CxO base r b l C h) : CxS h r b l C := ⟨x.1.2, x.2.1.2, x.2.2.2⟩
theorem CxO.keep {base : Nat} {r b l : Option Addr} {C : Cx} (U : Fp) (h h' : AH) (k : KB U h h') (hS : ∀ i, blk r i ∨ blk b i ∨ blk l i → ¬ U i) (x : CxO base r b l C h) : CxO base r b l C h' :=
 ⟨x.1.keep U _ _ k fun i hi => hS i (.inl hi), x.2.1.keep U _ _ k fun i hi => hS i (.inr (.inl hi)), x.2.2.keep U _ _ k fun i hi => hS i (.inr (.inr hi))⟩
def Cx.Le (C : Cx) : Prop := C.regs.length ≤ 1048576 ∧ C.box.length ≤ 1048576 ∧ C.links.length ≤ 1048576
theorem Hs.appN {base t sz bytes i n m : Nat} {V S : Fp} {h0 h : AH} {D : Ds} {R : List Rs} {a : Option Addr} {olds new : List Value} {src : Option (List Value)} (d : Hs base V h0 h D R) (ei : R[i]? = some ⟨S, true, fun x => Own base t x a olds⟩) (hS : ∀ b, blk a b → S b) (hn : olds.length = n * sz) (hsz : 0 < sz) (hs : src = some new) (h1 : (n + m) * bytes ≤ 140737488355328) (h2 : n + m ≤ 9223372036854775807) (hm : new.length = m * sz) :
  ∃ a' h', Am.app base h t sz bytes a n src m = some (.slice a' (n + m) (n + m), h') ∧ Hs base V h0 h' D (R.set i ⟨blk a', true, fun y => Own base t y a' (olds ++ new)⟩) ∧ KB (blk a) h h' := by
 obtain ⟨a', h', e, o, k, q⟩ := Own.app (x := d.rs ei) (bytes := bytes) (m := m) hn hsz hs d.ge h1 h2 hm
 refine ⟨a', h', e, d.upd (Upd.at ei) rfl rfl k (fun b hb => .inl (hS b hb)) o (fun U y y' ky hs x => x.keep ky hs) (fun b hb => ?_), k⟩
 rcases q with ⟨_, e, _⟩ | q
 ·have hb : blk a' b := hb
  rw [e] at hb
  exact .inl (hS b hb)
 ·have e := q b hb
  have := (o.lt hb).2
  exact .inr ⟨by omega, this⟩
end Go.Proofs.Ytjmkbglnjklbcaa.Am
set_option linter.unusedSimpArgs false
set_option linter.unusedVariables false
namespace Go.Proofs.Ytjmkbglnjklbcaa.Am
open Go Go.RowKit
def addA (l : List ByteArray) (s : ByteArray) : List ByteArray × Int := if aix s l 0 ≥ 0 then (l, aix s l 0) else if (!atomOk s) = true then (l, -1) else if decide ((l.length : Int) ≥ 200) = true then (l, -1) else (l ++ [s], (l.length : Int))
theorem stV_leaf (l : List ByteArray) : (stV l).all leaf = true := by
 induction l with
 | nil => rfl
 | cons x r ih => simp only [stV, List.map_cons, List.all_cons] at ih ⊢; rw [ih]; rfl
abbrev rSt (base : Nat) (a : Option Addr) (l : List ByteArray) : Rs := ⟨blk a, true, fun y => Own base 9 y a (stV l)⟩
theorem Hs.copyS {base : Nat} {V : Fp} {h0 h : AH} {D : Ds} {R : List Rs} {v : Option Addr} {l : List ByteArray} (d : Hs base V h0 h D R) (hl : l.length ≤ 1048576) (hs : Sl h v (stV l)) : ∃ a' h', Am.app base h 9 1 16 none 0 (rawAt h v (l.length * 1)) l.length = some (.slice a' l.length l.length, h') ∧ Hs base V h0 h' D (R ++ [rSt base a' l]) ∧ KB NoB h h' := by
 have hr : rawAt h v (l.length * 1) = some (stV l) := by
  have := hs.raw (stV_leaf l)
  rw [stV_len] at this
  rw [Nat.mul_one]
  exact this
 obtain ⟨a1, h1, g1, g2, g3, g4⟩ := Own.app (base := base) (t := 9) (sz := 1) (bytes := 16) (h := h) (a := none) (olds := []) (.inl ⟨rfl, rfl⟩) (n := 0) (m := l.length) (by simp) (by omega) hr d.ge (by omega) (by omega) (by rw [stV_len]; omega)
 simp only [List.nil_append, Nat.zero_add] at g1 g2
 have k : KB NoB h h1 := g3.mono fun i hi ⟨ad, e, _⟩ => by cases e
 refine ⟨a1, h1, g1, d.call k (blk a1) (fun y => Own base 9 y a1 (stV l)) g2 (fun U y y' ky hs x => x.keep ky hs) (fun b hb' => ⟨?_, (g2.lt hb').2⟩), k⟩
 rcases g4 with ⟨_, rfl, _⟩ | g4
 ·obtain ⟨ad, e, _⟩ := hb'; cases e
 ·have := g4 b hb'; omega
theorem Hs.copyE {base b : Nat} {V : Fp} {h0 h : AH} {D : Ds} {R : List Rs} {v : Option Addr} {l : List ByteArray} (d : Hs base V h0 h ((b, 9, []) :: D) R) (hl : l.length ≤ 1048576) (hs : Sl h v (stV l)) (hi : R = []) : ∃ a' h', Am.app base h 9 1 16 (at0 b) 0 (rawAt h v (l.length * 1)) l.length = some (.slice a' l.length l.length, h') ∧ Hs base V h0 h' D [rSt base a' l] ∧ KB (· = b) h h' := by
 subst hi
 have hr : rawAt h v (l.length * 1) = some (stV l) := by
  have := hs.raw (stV_leaf l)
  rw [stV_len] at this
  rw [Nat.mul_one]
  exact this
 have d := d.unbox (Del.at (i := 0) rfl)
 simp only [n5, n6] at d
 obtain ⟨a2, h2, e2, d, k2⟩ := d.appN (i := 0) (n := 0) (m := l.length) (sz := 1) (bytes := 16) (a := at0 b) rfl (fun b hb => (blk_at0.1 hb)) (by simp) (by decide) hr (by omega) (by omega) (by rw [stV_len]; omega)
 simp only [List.nil_append, Nat.zero_add] at e2 d
 exact ⟨a2, h2, e2, d, k2.mono fun i _ hi => blk_at0.1 hi⟩
def AddR (base : Nat) (F : Nat) : Prop := ∀ (h : AH) (l : List ByteArray) (v : Option Addr) (s : ByteArray), l.length ≤ 1048576 → s.size ≤ 9223372036854775807 → Sl h v (stV l) → (∀ b, blk v b → b < h.length) → base ≤ h.length →
 ∃ a' h', run (Et base) F [.slice v l.length l.length, .string s] h = some (.tuple #[.slice a' (addA l s).1.length (addA l s).1.length, .int .i64 (addA l s).2], h') ∧ Own base 9 h' a' (stV (addA l s).1) ∧ KB NoB h h' ∧ ∀ b, blk a' b → h.length ≤ b
theorem stV_app (l : List ByteArray) (s : ByteArray) : stV l ++ [.string s] = stV (l ++ [s]) := by simp [stV]
theorem implAdd_run {base : Nat} : AddR base 175 := by
 intro h l v s hl hsz hs hvb hb
 have d := Hs.start hb
 suffices W : Wp (run (Et base) 175 [.slice v l.length l.length, .string s] h) fun o => ∃ a', o.1 = .tuple #[.slice a' (addA l s).1.length (addA l s).1.length, .int .i64 (addA l s).2] ∧ Own base 9 o.2 a' (stV (addA l s).1) ∧ KB NoB h o.2 ∧ ∀ b, blk a' b → h.length ≤ b by
  obtain ⟨⟨o1, o2⟩, e, a', y1, y2⟩ := W
  simp only at y1 y2
  subst y1
  exact ⟨a', o2, e, y2⟩
 refine W.of (fun r hx => Am.r175 hx) ?_
 obtain ⟨a1, h1, e1, d, k1⟩ := d.copyS hl hs
 refine W.bs e1 ?_
 ((try simp only [n1, n2, n3, n4, n5, n6] at d); (with_reducible repeat first | refine W.a1 d ?_ | refine W.a2 ?_ | refine W.a3 ?_ | refine W.bo ?_ | refine W.a5 d fun hw d lw kw => ?_ | refine W.a6 d ?_ | refine W.a7 ?_ | refine W.a8 ?_))
 refine W.bs (implAtomAt_run (by omega) (hs.keepN k1)) ?_
 ((try simp only [n1, n2, n3, n4, n5, n6] at d); (with_reducible repeat first | refine W.a1 d ?_ | refine W.a2 ?_ | refine W.a3 ?_ | refine W.bo ?_ | refine W.a5 d fun hw d lw kw => ?_ | refine W.a6 d ?_ | refine W.a7 ?_ | refine W.a8 ?_))
 have fr : ∀ b, blk a1 b → h.length ≤ b := fun b hb => (d.rfr (i := 0) rfl rfl b hb).resolve_left fun h => h
 unfold addA
 refine W.ite (fun c => ?_) (fun c => ?_)
 ·have c : aix s l 0 ≥ 0 := by simpa using c
  rw [if_pos c]
  exact W.ret ⟨a1, rfl, d.rs (i := 0) rfl, d.kb, fr⟩
 have c : ¬ aix s l 0 ≥ 0 := by simpa using c
 rw [if_neg c]
 apply W.jb (if (!atomOk s) = true then true else decide ((l.length : Int) ≥ 200)) d
 ·refine W.bs (implAtomOk_run hsz) ?_
  ((try simp only [n1, n2, n3, n4, n5, n6] at d); (with_reducible repeat first | refine W.a1 d ?_ | refine W.a2 ?_ | refine W.a3 ?_ | refine W.bo ?_ | refine W.a5 d fun hw d lw kw => ?_ | refine W.a6 d ?_ | refine W.a7 ?_ | refine W.a8 ?_))
  refine W.ite (fun c1 => ?_) (fun c1 => ?_)
  ·rw [if_pos c1]; exact W.lb rfl rfl (KB.refl _ _)
  ·rw [if_neg c1]; exact W.lb rfl rfl (KB.refl _ _)
 intro h2 d n2
 ((try simp only [n1, n2, n3, n4, n5, n6] at d); (with_reducible repeat first | refine W.a1 d ?_ | refine W.a2 ?_ | refine W.a3 ?_ | refine W.bo ?_ | refine W.a5 d fun hw d lw kw => ?_ | refine W.a6 d ?_ | refine W.a7 ?_ | refine W.a8 ?_))
 refine W.ite (fun c1 => ?_) (fun c1 => ?_)
 ·have e : (if (!atomOk s) = true then (l, (-1 : Int)) else if decide ((l.length : Int) ≥ 200) = true then (l, -1) else (l ++ [s], (l.length : Int))) = (l, -1) := by
   by_cases c2 : (!atomOk s) = true
   ·rw [if_pos c2]
   ·rw [if_neg c2] at c1 ⊢
    rw [if_pos c1]
  rw [e]
  exact W.ret ⟨a1, rfl, d.rs (i := 0) rfl, d.kb, fr⟩
 ·have e : (if (!atomOk s) = true then (l, (-1 : Int)) else if decide ((l.length : Int) ≥ 200) = true then (l, -1) else (l ++ [s], (l.length : Int))) = (l ++ [s], (l.length : Int)) := by
   by_cases c2 : (!atomOk s) = true
   ·rw [if_pos c2] at c1; exact absurd rfl c1
   ·rw [if_neg c2] at c1 ⊢
    rw [if_neg c1]
  rw [e]
  ((try simp only [n1, n2, n3, n4, n5, n6] at d); (with_reducible repeat first | refine W.a1 d ?_ | refine W.a2 ?_ | refine W.a3 ?_ | refine W.bo ?_ | refine W.a5 d fun hw d lw kw => ?_ | refine W.a6 d ?_ | refine W.a7 ?_ | refine W.a8 ?_); (refine W.nD d fun h3 d _ kh3 => ?_); (with_reducible repeat first | refine W.a1 d ?_ | refine W.a2 ?_ | refine W.a3 ?_ | refine W.bo ?_ | refine W.a5 d fun hw d lw kw => ?_ | refine W.a6 d ?_ | refine W.a7 ?_ | refine W.a8 ?_))
  have n9 := d.kb.1
  obtain ⟨a5, h5, e5, d, q5, k5, _⟩ := d.app1O (w := 1) (i := 0) (n := l.length) (bytes := 16) rfl (fun b hb => hb) (.head _) rfl (by decide) (by rw [stV_len]; omega) rfl (by omega) (by omega)
  refine W.bs e5 ?_
  ((try simp only [n1, n2, n3, n4, n5, n6] at d); (with_reducible repeat first | refine W.a1 d ?_ | refine W.a2 ?_ | refine W.a3 ?_ | refine W.bo ?_ | refine W.a5 d fun hw d lw kw => ?_ | refine W.a6 d ?_ | refine W.a7 ?_ | refine W.a8 ?_))
  have o5 : Own base 9 h5 a5 (stV l ++ [.string s]) := d.rs (i := 0) rfl
  rw [stV_app] at o5
  refine W.ret ⟨a5, by rw [List.length_append]; rfl, o5, d.kb, fun b hb => ?_⟩
  have := q5 b hb
  have := d.kb.1
  omega
theorem specAdd_run {base : Nat} : AddR base 133 := by
 intro h l v s hl hsz hs hvb hb
 have d := Hs.start hb
 suffices W : Wp (run (Et base) 133 [.slice v l.length l.length, .string s] h) fun o => ∃ a', o.1 = .tuple #[.slice a' (addA l s).1.length (addA l s).1.length, .int .i64 (addA l s).2] ∧ Own base 9 o.2 a' (stV (addA l s).1) ∧ KB NoB h o.2 ∧ ∀ b, blk a' b → h.length ≤ b by
  obtain ⟨⟨o1, o2⟩, e, a', y1, y2⟩ := W
  simp only at y1 y2
  subst y1
  exact ⟨a', o2, e, y2⟩
 refine W.of (fun r hx => Am.r133 hx) ?_
 ((try simp only [n1, n2, n3, n4, n5, n6] at d); (with_reducible repeat first | refine W.a1 d ?_ | refine W.a2 ?_ | refine W.a3 ?_ | refine W.bo ?_ | refine W.a5 d fun hw d lw kw => ?_ | refine W.a6 d ?_ | refine W.a7 ?_ | refine W.a8 ?_); (refine W.nD d fun h1 d _ kh1 => ?_); (with_reducible repeat first | refine W.a1 d ?_ | refine W.a2 ?_ | refine W.a3 ?_ | refine W.bo ?_ | refine W.a5 d fun hw d lw kw => ?_ | refine W.a6 d ?_ | refine W.a7 ?_ | refine W.a8 ?_))
 obtain ⟨a2, h2, e2, d, k2⟩ := d.copyE hl (hs.keepN d.kb) rfl
 refine W.bs e2 ?_
 ((try simp only [n1, n2, n3, n4, n5, n6] at d); (with_reducible repeat first | refine W.a1 d ?_ | refine W.a2 ?_ | refine W.a3 ?_ | refine W.bo ?_ | refine W.a5 d fun hw d lw kw => ?_ | refine W.a6 d ?_ | refine W.a7 ?_ | refine W.a8 ?_))
 refine W.bs (specAtomAt_run (by omega) (hs.keepN d.kb)) ?_
 ((try simp only [n1, n2, n3, n4, n5, n6] at d); (with_reducible repeat first | refine W.a1 d ?_ | refine W.a2 ?_ | refine W.a3 ?_ | refine W.bo ?_ | refine W.a5 d fun hw d lw kw => ?_ | refine W.a6 d ?_ | refine W.a7 ?_ | refine W.a8 ?_))
 have fr : ∀ b, blk a2 b → h.length ≤ b := fun b hb => (d.rfr (i := 0) rfl rfl b hb).resolve_left fun h => h
 unfold addA
 have hle := aix_le s l 0
 apply W.jb (if aix s l 0 ≥ 0 then true else if (!atomOk s) = true then true else decide ((l.length : Int) ≥ 200)) d
 ·refine W.ite (fun c => ?_) (fun c => ?_)
  ·have c : aix s l 0 ≥ 0 := by simpa using c
   rw [if_pos c]; exact W.lb rfl rfl (KB.refl _ _)
  have c : ¬ aix s l 0 ≥ 0 := by simpa using c
  rw [if_neg c]
  refine W.bs (specAtomOk_run hsz) ?_
  ((try simp only [n1, n2, n3, n4, n5, n6] at d); (with_reducible repeat first | refine W.a1 d ?_ | refine W.a2 ?_ | refine W.a3 ?_ | refine W.bo ?_ | refine W.a5 d fun hw d lw kw => ?_ | refine W.a6 d ?_ | refine W.a7 ?_ | refine W.a8 ?_))
  refine W.ite (fun c1 => ?_) (fun c1 => ?_)
  ·rw [if_pos c1]; exact W.lb rfl rfl (KB.refl _ _)
  ·rw [if_neg c1]; exact W.lb rfl rfl (KB.refl _ _)
 intro h3 d n3
 ((try simp only [n1, n2, n3, n4, n5, n6] at d); (with_reducible repeat first | refine W.a1 d ?_ | refine W.a2 ?_ | refine W.a3 ?_ | refine W.bo ?_ | refine W.a5 d fun hw d lw kw => ?_ | refine W.a6 d ?_ | refine W.a7 ?_ | refine W.a8 ?_))
 refine W.ite (fun c1 => ?_) (fun c1 => ?_)
 ·have e : (if aix s l 0 ≥ 0 then (l, aix s l 0) else if (!atomOk s) = true then (l, (-1 : Int)) else if decide ((l.length : Int) ≥ 200) = true then (l, -1) else (l ++ [s], (l.length : Int))) = (l, aix s l 0) := by
   by_cases c : aix s l 0 ≥ 0
   ·rw [if_pos c]
   ·rw [if_neg c] at c1 ⊢
    rw [show aix s l 0 = -1 from by omega]
    by_cases c2 : (!atomOk s) = true
    ·rw [if_pos c2]
    ·rw [if_neg c2] at c1 ⊢
     rw [if_pos c1]
  rw [e]
  exact W.ret ⟨a2, rfl, d.rs (i := 0) rfl, d.kb, fr⟩
 ·have e : (if aix s l 0 ≥ 0 then (l, aix s l 0) else if (!atomOk s) = true then (l, (-1 : Int)) else if decide ((l.length : Int) ≥ 200) = true then (l, -1) else (l ++ [s], (l.length : Int))) = (l ++ [s], (l.length : Int)) := by
   by_cases c : aix s l 0 ≥ 0
   ·rw [if_pos c] at c1; exact absurd rfl c1
   ·rw [if_neg c] at c1 ⊢
    by_cases c2 : (!atomOk s) = true
    ·rw [if_pos c2] at c1; exact absurd rfl c1
    ·rw [if_neg c2] at c1 ⊢
     rw [if_neg c1]
  rw [e]
  ((try simp only [n1, n2, n3, n4, n5, n6] at d); (with_reducible repeat first | refine W.a1 d ?_ | refine W.a2 ?_ | refine W.a3 ?_ | refine W.bo ?_ | refine W.a5 d fun hw d lw kw => ?_ | refine W.a6 d ?_ | refine W.a7 ?_ | refine W.a8 ?_); (refine W.nD d fun h4 d _ kh4 => ?_); (with_reducible repeat first | refine W.a1 d ?_ | refine W.a2 ?_ | refine W.a3 ?_ | refine W.bo ?_ | refine W.a5 d fun hw d lw kw => ?_ | refine W.a6 d ?_ | refine W.a7 ?_ | refine W.a8 ?_))
  have n9 := d.kb.1
  obtain ⟨a5, h5, e5, d, q5, k5, _⟩ := d.app1O (w := 1) (i := 0) (n := l.length) (bytes := 16) rfl (fun b hb => hb) (.head _) rfl (by decide) (by rw [stV_len]; omega) rfl (by omega) (by omega)
  refine W.bs e5 ?_
  ((try simp only [n1, n2, n3, n4, n5, n6] at d); (with_reducible repeat first | refine W.a1 d ?_ | refine W.a2 ?_ | refine W.a3 ?_ | refine W.bo ?_ | refine W.a5 d fun hw d lw kw => ?_ | refine W.a6 d ?_ | refine W.a7 ?_ | refine W.a8 ?_))
  have o5 : Own base 9 h5 a5 (stV l ++ [.string s]) := d.rs (i := 0) rfl
  rw [stV_app] at o5
  refine W.ret ⟨a5, by rw [List.length_append]; rfl, o5, d.kb, fun b hb => ?_⟩
  have := q5 b hb
  have := d.kb.1
  omega
end Go.Proofs.Ytjmkbglnjklbcaa.Am
set_option linter.unusedSimpArgs false
set_option linter.unusedVariables false
namespace Go.Proofs.Ytjmkbglnjklbcaa.Am
open Go Go.RowKit
def Wf (f : Nat) (t : Tm) : Prop := ∃ d x, x ≤ 100 ∧ 0 ≤ lk f t d x
theorem lkS_mem2 {g : Tm → Int → Int → Int} (hg : ∀ t d x, 0 ≤ x → -1 ≤ g t d x ∧ g t d x ≤ x) : ∀ (l : List Tm) (d x : Int), x ≤ 100 → 0 ≤ lkS g l d x → ∀ t ∈ l, ∃ d' x', x' ≤ 100 ∧ 0 ≤ g t d' x'
 | [], d, x, _, _, t, ht => by cases ht
 | u :: r, d, x, hx, h, t, ht => by
  rw [lkS] at h
  by_cases h0 : x ≥ 0
  ·rw [if_pos h0] at h
   have hu := hg u d x h0
   rcases List.mem_cons.1 ht with rfl | ht
   ·refine ⟨d, x, hx, ?_⟩
    by_cases hc : 0 ≤ g t d x
    ·exact hc
    ·rw [lkS_neg _ _ _ _ (by omega)] at h; omega
   ·exact lkS_mem2 hg r _ _ (by omega) h t ht
  ·rw [if_neg h0] at h; omega
theorem Wf.open {f : Nat} {k n : Int} {s : ByteArray} {l : List Tm} (h : Wf (f + 1) (.mk k n s l)) : shB k n s l.length = true ∧ ∀ t ∈ l, Wf f t := by
 obtain ⟨d, x, hx, h⟩ := h
 rw [lk] at h
 split at h
 ·omega
 ·rename_i hn
  refine ⟨?_, fun t ht => ?_⟩
  ·cases hs : shB k n s l.length with
   | true => rfl
   | false => exact absurd (.inr (.inr hs)) hn
  ·obtain ⟨d', x', a, b⟩ := lkS_mem2 (lk_le f) l _ _ (by omega) h t ht
   exact ⟨d', x', a, b⟩
theorem Wf.of {f : Nat} {t : Tm} (h : tOk f t = true) : Wf f t := ⟨6, 100, by omega, of_decide_eq_true h⟩
def ndN (k : Int) (s : ByteArray) (m : Nat) : Nat := if k = 4 then 1 + m else if k = 5 then 2 * m else if k = 6 then 1 + s.size else 0
def needT : Nat → Tm → Nat
 | 0, _ => 0
 | f + 1, .mk k _ s l => ndN k s l.length + sumL (needT f) l
theorem sh_kinds {k n : Int} {s : ByteArray} {m : Nat} (h : shB k n s m = true) : (k = 1 ∨ k = 2 ∨ k = 3 ∨ k = 4 ∨ k = 5 ∨ k = 6) ∧ (k ≠ 4 → k ≠ 5 → m = 0) ∧ (k = 1 → -1000000 ≤ n ∧ n ≤ 1000000) ∧ (k = 3 → 0 ≤ n ∧ n ≤ 99999) ∧ (k = 4 → m ≤ 8) ∧ (k = 5 → m ≤ 20) ∧ (k = 6 → s.size ≤ 40) := by
 unfold shB at h
 by_cases h1 : k = 1
 ·subst h1
  simp only [beq_self_eq_true, if_true, Bool.and_eq_true, beq_iff_eq] at h
  obtain ⟨⟨a, _⟩, b⟩ := h
  have : -1000000 ≤ n ∧ n ≤ 1000000 := by unfold inB at a; simpa using a
  refine ⟨by omega, fun _ _ => by omega, fun _ => this, fun h => by omega, fun h => by omega, fun h => by omega, fun h => by omega⟩
 rw [if_neg (by simpa using h1)] at h
 by_cases h2 : k = 2
 ·subst h2
  simp only [beq_self_eq_true, if_true, Bool.and_eq_true, beq_iff_eq] at h
  obtain ⟨_, b⟩ := h
  refine ⟨by omega, fun _ _ => by omega, fun h => by omega, fun h => by omega, fun h => by omega, fun h => by omega, fun h => by omega⟩
 rw [if_neg (by simpa using h2)] at h
 by_cases h3 : k = 3
 ·subst h3
  simp only [beq_self_eq_true, if_true, Bool.and_eq_true, beq_iff_eq] at h
  obtain ⟨⟨a, _⟩, b⟩ := h
  have : 0 ≤ n ∧ n ≤ 99999 := by unfold inB at a; simpa using a
  refine ⟨by omega, fun _ _ => by omega, fun h => by omega, fun _ => this, fun h => by omega, fun h => by omega, fun h => by omega⟩
 rw [if_neg (by simpa using h3)] at h
 by_cases h4 : k = 4
 ·subst h4
  simp only [beq_self_eq_true, if_true, Bool.and_eq_true, beq_iff_eq, decide_eq_true_eq] at h
  obtain ⟨_, b⟩ := h
  refine ⟨by omega, fun h => absurd rfl h, fun h => by omega, fun h => by omega, fun _ => by omega, fun h => by omega, fun h => by omega⟩
 rw [if_neg (by simpa using h4)] at h
 by_cases h5 : k = 5
 ·subst h5
  simp only [beq_self_eq_true, if_true, Bool.and_eq_true, beq_iff_eq, decide_eq_true_eq] at h
  obtain ⟨_, b⟩ := h
  refine ⟨by omega, fun _ h => absurd rfl h, fun h => by omega, fun h => by omega, fun h => by omega, fun _ => by omega, fun h => by omega⟩
 rw [if_neg (by simpa using h5)] at h
 by_cases h6 : k = 6
 ·subst h6
  simp only [beq_self_eq_true, if_true, Bool.and_eq_true, beq_iff_eq, decide_eq_true_eq] at h
  obtain ⟨⟨_, a⟩, b⟩ := h
  refine ⟨by omega, fun _ _ => by omega, fun h => by omega, fun h => by omega, fun h => by omega, fun h => by omega, fun _ => by omega⟩
 ·rw [if_neg (by simpa using h6)] at h; cases h
theorem ndN_le {k n : Int} {s : ByteArray} {m : Nat} (h : shB k n s m = true) : ndN k s m ≤ 41 := by
 obtain ⟨_, _, _, _, a, b, c⟩ := sh_kinds h
 unfold ndN
 split
 ·have := a (by assumption); omega
 ·split
  ·have := b (by assumption); omega
  ·split
   ·have := c (by assumption); omega
   ·omega
theorem need_lk : ∀ (f : Nat) (t : Tm) (d x : Int), 0 ≤ lk f t d x → (needT f t : Int) + 41 * lk f t d x ≤ 41 * x
 | 0, t, d, x, h => by rw [lk] at h; omega
 | f + 1, .mk k n s l, d, x, h => by
  rw [lk] at h ⊢
  split at h
  ·omega
  ·rename_i hn
   rw [if_neg hn]
   have hs : shB k n s l.length = true := by
    cases hs : shB k n s l.length with
    | true => rfl
    | false => exact absurd (.inr (.inr hs)) hn
   have hl : ∀ (r : List Tm) (d x : Int), 0 ≤ lkS (lk f) r d x → ((sumL (needT f) r : Nat) : Int) + 41 * lkS (lk f) r d x ≤ 41 * x := by
    intro r
    induction r with
    | nil => intro d x hx; simp [sumL, lkS]
    | cons t r ihr =>
     intro d x hx
     rw [lkS] at hx ⊢
     split at hx
     ·rename_i h0
      rw [if_pos h0]
      have h1 : 0 ≤ lk f t d x := by
       by_cases hc : 0 ≤ lk f t d x
       ·exact hc
       ·rw [lkS_neg _ _ _ _ (by omega)] at hx; omega
      have a := need_lk f t d x h1
      have b := ihr d _ hx
      simp only [sumL]
      omega
     ·omega
   have := hl l _ _ h
   have := ndN_le hs
   rw [needT]
   omega
theorem Wf.need {f : Nat} {t : Tm} (h : Wf f t) : needT f t ≤ 4100 := by
 obtain ⟨d, x, hx, h⟩ := h
 have := need_lk f t d x h
 omega
def NeedR (base F : Nat) (f : Nat) : Prop := ∀ (h : AH) (p : Nat → Prop) (t : Tm) (cs : List Value), TmR h p f t cs → Wf f t → base ≤ h.length → ∃ h', run (Et base) F [.agg cs.toArray] h = some (.int .i64 (needT f t), h') ∧ KB NoB h h'
theorem implNeed_loop {base f : Nat} {a : Option Addr} {l : List Tm} {p : Nat → Prop} (hl : l.length ≤ 20) (hw : ∀ t ∈ l, Wf f t) (ih : NeedR base 135 f) : ∀ (r i : Nat) (h : AH) (acc : Int), i + r = l.length → 0 ≤ acc → acc + 4100 * r ≤ 1000000 → TsR h p f l a → base ≤ h.length →
  Wp (loopL (B135_0 base) [some (.int .i64 acc), some (.slice a l.length l.length), some (.int .i64 (l.length : Int)), some (.int .i64 (i : Int))] h) fun o => o.1 = 3 ∧ o.2.1 = [some (.int .i64 (acc + ((sumL (needT f) (l.drop i) : Nat) : Int)))] ∧ KB NoB h o.2.2 := by
 intro r
 induction r with
 | zero =>
  intro i h acc hi ha hb hs hbb
  suffices w1 : Wp (B135_0 base [some (.int .i64 acc), some (.slice a l.length l.length), some (.int .i64 (l.length : Int)), some (.int .i64 (i : Int))] h) fun o => o = (3, [some (.int .i64 acc)], h) by
   obtain ⟨o, e, rfl⟩ := w1
   refine ⟨_, loop_off (by decide) e, rfl, ?_, KB.refl _ _⟩
   rw [List.drop_of_length_le (by omega)]
   simp [sumL]
  rw [B135_0_eq]
  exact W.ifF (by simp; omega) (W.ret rfl)
 | succ r ihr =>
  intro i h acc hi ha hb hs hbb
  have hlt : i < l.length := by omega
  have hwi := hw l[i] (List.getElem_mem _)
  have hni := hwi.need
  have ed : l.drop i = l[i] :: l.drop (i + 1) := List.drop_eq_getElem_cons hlt
  suffices w1 : Wp (B135_0 base [some (.int .i64 acc), some (.slice a l.length l.length), some (.int .i64 (l.length : Int)), some (.int .i64 (i : Int))] h) fun o => o.1 = 0 ∧ o.2.1 = [some (.int .i64 (acc + (needT f l[i] : Int))), some (.slice a l.length l.length), some (.int .i64 (l.length : Int)), some (.int .i64 ((i + 1 : Nat) : Int))] ∧ KB NoB h o.2.2 by
   obtain ⟨⟨o1, o2, h'⟩, e, y1, y2, k⟩ := w1
   simp only at y1 y2 k
   subst y1; subst y2
   obtain ⟨o, eo, z1, z2, z3⟩ := ihr (i + 1) h' (acc + (needT f l[i] : Int)) (by omega) (by omega) (by omega) (hs.keep k fun _ _ h => h) (Nat.le_trans hbb k.1)
   refine ⟨o, loop_on e eo, z1, ?_, kN k z3⟩
   rw [z2, ed]
   rw [sumL, Int.natCast_add, Int.add_assoc]
  rw [B135_0_eq]
  refine W.ifT (decide_eq_true (by omega)) (W.ifT (by omega) ?_)
  cases f with
  | zero => obtain ⟨d, x, _, hx⟩ := hwi; rw [lk] at hx; omega
  | succ f =>
   obtain ⟨ad, k, n, s, a2, m, rfl, g0, g1, g2, g3, hm⟩ := hs.getT hlt
   have d := Hs.start hbb
   refine W.bs rfl (W.bI g0 (W.bI g1 (W.bT g2 (W.bS g3 ?_))))
   ((try simp only [n1, n2, n3, n4, n5, n6] at d); (with_reducible repeat first | refine W.a1 d ?_ | refine W.a2 ?_ | refine W.a3 ?_ | refine W.bo ?_ | refine W.a5 d fun hw d lw kw => ?_ | refine W.a6 d ?_ | refine W.a7 ?_ | refine W.a8 ?_); (refine W.nD d fun h2 d _ kh2 => ?_); (with_reducible repeat first | refine W.a1 d ?_ | refine W.a2 ?_ | refine W.a3 ?_ | refine W.bo ?_ | refine W.a5 d fun hw d lw kw => ?_ | refine W.a6 d ?_ | refine W.a7 ?_ | refine W.a8 ?_))
   obtain ⟨h3, e3, k3⟩ := ih hw p _ _ (hm.keep d.kb fun _ _ h => h) hwi d.ge
   refine W.bs e3 (W.bI rfl ?_)
   rw [w64i (n := acc + (needT (f + 1) l[i] : Int)) (by omega) (by omega), w64i (n := (i : Int) + 1) (by omega) (by omega)]
   exact W.ret ⟨rfl, rfl, kN d.kb k3⟩
theorem implNeed_run {base : Nat} : ∀ f, NeedR base 135 f
 | 0 => fun h p t cs _ hw _ => by obtain ⟨d, x, _, hx⟩ := hw; rw [lk] at hx; omega
 | f + 1 => by
  intro h p t cs hm hw hb
  have ih := implNeed_run (base := base) f
  obtain ⟨k, n, s, l⟩ := t
  obtain ⟨hsh, hch⟩ := hw.open
  obtain ⟨ks, k0, _, _, k4, k5, k6⟩ := sh_kinds hsh
  obtain ⟨a, rfl, hts, hsz, hln⟩ := hm.parts
  have hl20 : l.length ≤ 20 := by
   by_cases c4 : k = 4
   ·have := k4 c4; omega
   ·by_cases c5 : k = 5
    ·exact k5 c5
    ·rw [k0 c4 c5]; omega
  have d := Hs.start hb
  suffices W : Wp (run (Et base) 135 [.agg (termV k n s a l.length).toArray] h) fun o => o.1 = .int .i64 (needT (f + 1) (.mk k n s l)) ∧ KB NoB h o.2 by
   obtain ⟨⟨o1, o2⟩, e, y1, y2⟩ := W
   simp only at y1 y2
   subst y1
   exact ⟨o2, e, y2⟩
  refine W.of (fun r hx => Am.r135 hx) ?_
  ((try simp only [n1, n2, n3, n4, n5, n6] at d); (with_reducible repeat first | refine W.a1 d ?_ | refine W.a2 ?_ | refine W.a3 ?_ | refine W.bo ?_ | refine W.a5 d fun hw d lw kw => ?_ | refine W.a6 d ?_ | refine W.a7 ?_ | refine W.a8 ?_); (refine W.nD d fun h1 d _ kh1 => ?_); (with_reducible repeat first | refine W.a1 d ?_ | refine W.a2 ?_ | refine W.a3 ?_ | refine W.bo ?_ | refine W.a5 d fun hw d lw kw => ?_ | refine W.a6 d ?_ | refine W.a7 ?_ | refine W.a8 ?_))
  rw [needT]
  have leaf : k ≠ 4 → k ≠ 5 → sumL (needT f) l = 0 := fun a b => by
   have : l = [] := List.eq_nil_of_length_eq_zero (k0 a b)
   subst this; rfl
  refine W.joinP (fun q => q = ([some (.pointer (at0 h.length)), some (.int .i64 ((ndN k s l.length : Nat) : Int))], h1) ∧ (k = 4 ∨ k = 5)) ?_ fun q hq => ?_
  ·((try simp only [n1, n2, n3, n4, n5, n6] at d); (with_reducible repeat first | refine W.a1 d ?_ | refine W.a2 ?_ | refine W.a3 ?_ | refine W.bo ?_ | refine W.a5 d fun hw d lw kw => ?_ | refine W.a6 d ?_ | refine W.a7 ?_ | refine W.a8 ?_))
   refine W.ite (fun c => ?_) (fun c => ?_)
   ·have c : k = 6 := by simpa using c
    have := k6 c
    ((try simp only [n1, n2, n3, n4, n5, n6] at d); (with_reducible repeat first | refine W.a1 d ?_ | refine W.a2 ?_ | refine W.a3 ?_ | refine W.bo ?_ | refine W.a5 d fun hw d lw kw => ?_ | refine W.a6 d ?_ | refine W.a7 ?_ | refine W.a8 ?_))
    refine W.mp (W.ret ⟨?_, d.kb⟩)
    rw [leaf (by omega) (by omega), w64i (by omega) (by omega)]
    unfold ndN
    rw [if_neg (by omega), if_neg (by omega), if_pos c]
    congr 1
   have c6 : ¬ k = 6 := by simpa using c
   refine W.ite (fun c => ?_) (fun c => ?_)
   ·have c : k = 4 := by simpa using c
    ((try simp only [n1, n2, n3, n4, n5, n6] at d); (with_reducible repeat first | refine W.a1 d ?_ | refine W.a2 ?_ | refine W.a3 ?_ | refine W.bo ?_ | refine W.a5 d fun hw d lw kw => ?_ | refine W.a6 d ?_ | refine W.a7 ?_ | refine W.a8 ?_))
    rw [w64i (n := 1 + (l.length : Int)) (by omega) (by omega)]
    refine W.inl ⟨?_, .inl c⟩
    unfold ndN
    rw [if_pos c]
    rfl
   have c4 : ¬ k = 4 := by simpa using c
   refine W.ite (fun c => ?_) (fun c => ?_)
   ·have c : k = 5 := by simpa using c
    ((try simp only [n1, n2, n3, n4, n5, n6] at d); (with_reducible repeat first | refine W.a1 d ?_ | refine W.a2 ?_ | refine W.a3 ?_ | refine W.bo ?_ | refine W.a5 d fun hw d lw kw => ?_ | refine W.a6 d ?_ | refine W.a7 ?_ | refine W.a8 ?_))
    rw [w64i (n := 2 * (l.length : Int)) (by omega) (by omega)]
    refine W.inl ⟨?_, .inr c⟩
    unfold ndN
    rw [if_neg c4, if_pos c]
    rfl
   ·have c5 : ¬ k = 5 := by simpa using c
    refine W.mp (W.ret ⟨?_, d.kb⟩)
    rw [leaf c4 c5]
    unfold ndN
    rw [if_neg c4, if_neg c5, if_neg c6]
    rfl
  obtain ⟨rfl, hk⟩ := hq
  ((try simp only [n1, n2, n3, n4, n5, n6] at d); (with_reducible repeat first | refine W.a1 d ?_ | refine W.a2 ?_ | refine W.a3 ?_ | refine W.bo ?_ | refine W.a5 d fun hw d lw kw => ?_ | refine W.a6 d ?_ | refine W.a7 ?_ | refine W.a8 ?_))
  have hnd := ndN_le hsh
  refine W.wb (implNeed_loop (base := base) (p := p) hl20 hch ih l.length 0 h1 _ (by omega) (by omega) (by omega) (hts.keep d.kb fun _ _ h => h) d.ge) ?_
  rintro ⟨o1, o2, h2⟩ ⟨y1, y2, k2⟩
  simp only at y1 y2 k2
  subst y1; subst y2
  refine W.ifT rfl (W.bI rfl (W.ret ⟨?_, kN d.kb k2⟩))
  rw [List.drop_zero, Int.natCast_add]
theorem specNeed_loop {base f tb : Nat} {k n : Int} {s : ByteArray} {a : Option Addr} {l : List Tm} {p : Nat → Prop} (hl : l.length ≤ 20) (hk : l ≠ [] → k = 4 ∨ k = 5) (hw : ∀ t ∈ l, Wf f t) (ih : NeedR base 71 f) : ∀ (r i : Nat) (h : AH) (acc : Int), i + r = l.length → 0 ≤ acc → acc + 4100 * r ≤ 1000000 → TsR h p f l a → base ≤ h.length → Own base 39 h (at0 tb) (termV k n s a l.length) →
  Wp (loopL (B71_0 base) [some (.pointer (at0 tb)), some (.int .i64 acc), some (.int .i64 (i : Int))] h) fun o => o.1 = 3 ∧ o.2.1 = [some (.int .i64 (acc + ((sumL (needT f) (l.drop i) : Nat) : Int)))] ∧ KB NoB h o.2.2 := by
 intro r
 induction r with
 | zero =>
  intro i h acc hi ha hb hs hbb o
  suffices w1 : Wp (B71_0 base [some (.pointer (at0 tb)), some (.int .i64 acc), some (.int .i64 (i : Int))] h) fun o => o = (3, [some (.int .i64 acc)], h) by
   obtain ⟨o, e, rfl⟩ := w1
   refine ⟨_, loop_off (by decide) e, rfl, ?_, KB.refl _ _⟩
   rw [List.drop_of_length_le (by omega)]
   simp [sumL]
  rw [B71_0_eq]
  refine W.join (W.bS (o.at0 (i := 3) rfl) (W.ifF (by simp; omega) (W.il ?_)))
  exact W.bs rfl (W.bs rfl (W.bs rfl (W.bs rfl (W.ifF (by decide) (W.ret rfl)))))
 | succ r ihr =>
  intro i h acc hi ha hb hs hbb o
  have hlt : i < l.length := by omega
  have hwi := hw l[i] (List.getElem_mem _)
  have hni := hwi.need
  have hk := hk (fun e => by rw [e] at hlt; simp at hlt)
  have ed : l.drop i = l[i] :: l.drop (i + 1) := List.drop_eq_getElem_cons hlt
  suffices w1 : Wp (B71_0 base [some (.pointer (at0 tb)), some (.int .i64 acc), some (.int .i64 (i : Int))] h) fun o => o.1 = 0 ∧ o.2.1 = [some (.pointer (at0 tb)), some (.int .i64 (acc + (needT f l[i] : Int))), some (.int .i64 ((i + 1 : Nat) : Int))] ∧ KB NoB h o.2.2 by
   obtain ⟨⟨o1, o2, h'⟩, e, y1, y2, k⟩ := w1
   simp only at y1 y2 k
   subst y1; subst y2
   obtain ⟨o, eo, z1, z2, z3⟩ := ihr (i + 1) h' (acc + (needT f l[i] : Int)) (by omega) (by omega) (by omega) (hs.keep k fun _ _ h => h) (Nat.le_trans hbb k.1) (o.keepN k)
   refine ⟨o, loop_on e eo, z1, ?_, kN k z3⟩
   rw [z2, ed]
   rw [sumL, Int.natCast_add, Int.add_assoc]
  rw [B71_0_eq]
  refine W.join (W.bS (o.at0 (i := 3) rfl) (W.ifT (decide_eq_true (by omega)) (W.bI (o.at0 (i := 0) rfl) (W.bs l1In_run (W.bB rfl (W.il ?_))))))
  refine W.bs rfl (W.bs rfl (W.bs rfl (W.bs rfl (W.ifT ?_ ?_))))
  ·unfold inB; rcases hk with rfl | rfl <;> rfl
  refine W.bS (o.at0 (i := 3) rfl) (W.ifT (by omega) ?_)
  cases f with
  | zero => obtain ⟨d, x, _, hx⟩ := hwi; rw [lk] at hx; omega
  | succ f =>
   obtain ⟨ad, k, n, s, a2, m, rfl, g0, g1, g2, g3, hm⟩ := hs.getT hlt
   refine W.bs rfl (W.bI g0 (W.bI g1 (W.bT g2 (W.bS g3 ?_))))
   obtain ⟨h3, e3, k3⟩ := ih h p _ _ hm hwi hbb
   refine W.bs e3 (W.bI rfl ?_)
   rw [w64i (n := acc + (needT (f + 1) l[i] : Int)) (by omega) (by omega), w64i (n := (i : Int) + 1) (by omega) (by omega)]
   exact W.ret ⟨rfl, rfl, k3⟩
theorem specNeed_run {base : Nat} : ∀ f, NeedR base 71 f
 | 0 => fun h p t cs _ hw _ => by obtain ⟨d, x, _, hx⟩ := hw; rw [lk] at hx; omega
 | f + 1 => by
  intro h p t cs hm hw hb
  have ih := specNeed_run (base := base) f
  obtain ⟨k, n, s, l⟩ := t
  obtain ⟨hsh, hch⟩ := hw.open
  obtain ⟨ks, k0, _, _, k4, k5, k6⟩ := sh_kinds hsh
  obtain ⟨a, rfl, hts, hsz, hln⟩ := hm.parts
  have hl20 : l.length ≤ 20 := by
   by_cases c4 : k = 4
   ·have := k4 c4; omega
   ·by_cases c5 : k = 5
    ·exact k5 c5
    ·rw [k0 c4 c5]; omega
  have d := Hs.start hb
  suffices W : Wp (run (Et base) 71 [.agg (termV k n s a l.length).toArray] h) fun o => o.1 = .int .i64 (needT (f + 1) (.mk k n s l)) ∧ KB NoB h o.2 by
   obtain ⟨⟨o1, o2⟩, e, y1, y2⟩ := W
   simp only at y1 y2
   subst y1
   exact ⟨o2, e, y2⟩
  refine W.of (fun r hx => Am.r71 hx) ?_
  ((try simp only [n1, n2, n3, n4, n5, n6] at d); (with_reducible repeat first | refine W.a1 d ?_ | refine W.a2 ?_ | refine W.a3 ?_ | refine W.bo ?_ | refine W.a5 d fun hw d lw kw => ?_ | refine W.a6 d ?_ | refine W.a7 ?_ | refine W.a8 ?_); (refine W.nD d fun h1 d _ kh1 => ?_); (with_reducible repeat first | refine W.a1 d ?_ | refine W.a2 ?_ | refine W.a3 ?_ | refine W.bo ?_ | refine W.a5 d fun hw d lw kw => ?_ | refine W.a6 d ?_ | refine W.a7 ?_ | refine W.a8 ?_))
  rw [needT]
  refine W.joinP (fun q => q = ([some (.pointer (at0 h.length)), some (.int .i64 ((ndN k s l.length : Nat) : Int))], h1)) ?_ fun q hq => ?_
  ·((try simp only [n1, n2, n3, n4, n5, n6] at d); (with_reducible repeat first | refine W.a1 d ?_ | refine W.a2 ?_ | refine W.a3 ?_ | refine W.bo ?_ | refine W.a5 d fun hw d lw kw => ?_ | refine W.a6 d ?_ | refine W.a7 ?_ | refine W.a8 ?_))
   refine W.ite (fun c => ?_) (fun c => ?_)
   ·have c : k = 4 := by simpa using c
    ((try simp only [n1, n2, n3, n4, n5, n6] at d); (with_reducible repeat first | refine W.a1 d ?_ | refine W.a2 ?_ | refine W.a3 ?_ | refine W.bo ?_ | refine W.a5 d fun hw d lw kw => ?_ | refine W.a6 d ?_ | refine W.a7 ?_ | refine W.a8 ?_))
    rw [w64i (n := 1 + (l.length : Int)) (by omega) (by omega)]
    refine W.inl ?_
    unfold ndN
    rw [if_pos c]
    rfl
   have c4 : ¬ k = 4 := by simpa using c
   refine W.ite (fun c => ?_) (fun c => ?_)
   ·have c : k = 5 := by simpa using c
    ((try simp only [n1, n2, n3, n4, n5, n6] at d); (with_reducible repeat first | refine W.a1 d ?_ | refine W.a2 ?_ | refine W.a3 ?_ | refine W.bo ?_ | refine W.a5 d fun hw d lw kw => ?_ | refine W.a6 d ?_ | refine W.a7 ?_ | refine W.a8 ?_))
    rw [w64i (n := 2 * (l.length : Int)) (by omega) (by omega)]
    refine W.inl ?_
    unfold ndN
    rw [if_neg c4, if_pos c]
    rfl
   have c5 : ¬ k = 5 := by simpa using c
   refine W.ite (fun c => ?_) (fun c => ?_)
   ·have c : k = 6 := by simpa using c
    have := k6 c
    ((try simp only [n1, n2, n3, n4, n5, n6] at d); (with_reducible repeat first | refine W.a1 d ?_ | refine W.a2 ?_ | refine W.a3 ?_ | refine W.bo ?_ | refine W.a5 d fun hw d lw kw => ?_ | refine W.a6 d ?_ | refine W.a7 ?_ | refine W.a8 ?_))
    rw [w64i (n := 1 + (s.size : Int)) (by omega) (by omega)]
    refine W.inl ?_
    unfold ndN
    rw [if_neg c4, if_neg c5, if_pos c]
    rfl
   ·have c6 : ¬ k = 6 := by simpa using c
    refine W.inl ?_
    unfold ndN
    rw [if_neg c4, if_neg c5, if_neg c6]
    rfl
  subst hq
  ((try simp only [n1, n2, n3, n4, n5, n6] at d); (with_reducible repeat first | refine W.a1 d ?_ | refine W.a2 ?_ | refine W.a3 ?_ | refine W.bo ?_ | refine W.a5 d fun hw d lw kw => ?_ | refine W.a6 d ?_ | refine W.a7 ?_ | refine W.a8 ?_))
  have hnd := ndN_le hsh
  refine W.wb (specNeed_loop (base := base) (p := p) hl20 (fun hne => by
   by_cases c4 : k = 4
   ·exact .inl c4
   ·by_cases c5 : k = 5
    ·exact .inr c5
    ·exact absurd (List.eq_nil_of_length_eq_zero (k0 c4 c5)) hne) hch ih l.length 0 h1 _ (by omega) (by omega) (by omega) (hts.keep d.kb fun _ _ h => h) d.ge (d.ol (.head _))) ?_
  rintro ⟨o1, o2, h2⟩ ⟨y1, y2, k2⟩
  simp only at y1 y2 k2
  subst y1; subst y2
  refine W.ifT rfl (W.bI rfl (W.ret ⟨?_, kN d.kb k2⟩))
  rw [List.drop_zero, Int.natCast_add]
end Go.Proofs.Ytjmkbglnjklbcaa.Am
set_option linter.unusedSimpArgs false
set_option linter.unusedVariables false
namespace Go.Proofs.Ytjmkbglnjklbcaa.Am
open Go Go.RowKit
abbrev PS := List Int × List ByteArray
def bsL (s : ByteArray) : List Int := s.data.toList.map fun x => (x.toNat : Int)
theorem bsL_len (s : ByteArray) : (bsL s).length = s.size := by unfold bsL; rw [List.length_map, Array.length_toList]; rfl
def ptT (g : PS → Tm → PS × Int × Bool) : List Tm → Nat → PS → PS × Bool
 | [], _, p => (p, true)
 | t :: r, pos, p => ((ptT g r (pos + 1) ((g p t).1.1.set pos (g p t).2.1, (g p t).1.2)).1, (g p t).2.2 && (ptT g r (pos + 1) ((g p t).1.1.set pos (g p t).2.1, (g p t).1.2)).2)
def ptL (g : PS → Tm → PS × Int × Bool) (fr : Int) : List Tm → Nat → PS → PS × Bool
 | [], _, p => (p, true)
 | t :: r, pos, p => ((ptL g fr r (pos + 2) (((g p t).1.1.set pos (g p t).2.1).set (pos + 1) (mkW 5 (fr + pos + 2)), (g p t).1.2)).1, (g p t).2.2 && (ptL g fr r (pos + 2) (((g p t).1.1.set pos (g p t).2.1).set (pos + 1) (mkW 5 (fr + pos + 2)), (g p t).1.2)).2)
def pt (fr : Int) : Nat → PS → Tm → PS × Int × Bool
 | 0, p, _ => (p, 0, true)
 | f + 1, p, .mk k n s l =>
  if k = 1 then (p, mkW 0 (n + 1000000), true)
  else if k = 2 then ((p.1, (addA p.2 s).1), mkW 1 (addA p.2 s).2, decide ((addA p.2 s).2 ≥ 0))
  else if k = 3 then (p, mkW 2 n, true)
  else if k = 6 then ((p.1 ++ (s.size : Int) :: bsL s, p.2), mkW 6 (fr + p.1.length), true)
  else if k = 4 then ((ptT (pt fr f) l (p.1.length + 1) (p.1 ++ (l.length : Int) :: List.replicate l.length 0, p.2)).1, mkW 4 (fr + p.1.length), (ptT (pt fr f) l (p.1.length + 1) (p.1 ++ (l.length : Int) :: List.replicate l.length 0, p.2)).2)
  else if l = [] then (p, 3, true)
  else (((ptL (pt fr f) fr l p.1.length (p.1 ++ List.replicate (2 * l.length) 0, p.2)).1.1.set (p.1.length + 2 * l.length - 1) 3, (ptL (pt fr f) fr l p.1.length (p.1 ++ List.replicate (2 * l.length) 0, p.2)).1.2), mkW 5 (fr + p.1.length), (ptL (pt fr f) fr l p.1.length (p.1 ++ List.replicate (2 * l.length) 0, p.2)).2)
theorem addA_len (l : List ByteArray) (s : ByteArray) : (addA l s).1.length ≤ max l.length 200 := by
 unfold addA
 split
 ·exact Nat.le_max_left _ _
 ·split
  ·exact Nat.le_max_left _ _
  ·split
   ·exact Nat.le_max_left _ _
   ·rename_i h
    have : ¬ ((l.length : Int) ≥ 200) := by simpa using h
    rw [List.length_append]
    simp only [List.length_singleton]
    omega
def PtOk (g : PS → Tm → PS × Int × Bool) (nd : Tm → Nat) (t : Tm) : Prop := ∀ p : PS, (g p t).1.1.length = p.1.length + nd t ∧ (g p t).1.2.length ≤ max p.2.length 200
theorem ptT_len {g : PS → Tm → PS × Int × Bool} {nd : Tm → Nat} : ∀ (l : List Tm) (pos : Nat) (p : PS), (∀ t ∈ l, PtOk g nd t) → (ptT g l pos p).1.1.length = p.1.length + sumL nd l ∧ (ptT g l pos p).1.2.length ≤ max p.2.length 200
 | [], pos, p, _ => ⟨rfl, Nat.le_max_left _ _⟩
 | t :: r, pos, p, h => by
  have a := h t (.head _) p
  have b := ptT_len r (pos + 1) ((g p t).1.1.set pos (g p t).2.1, (g p t).1.2) fun u hu => h u (.tail _ hu)
  simp only [List.length_set] at b
  rw [ptT, sumL]
  simp only
  omega
theorem ptL_len {g : PS → Tm → PS × Int × Bool} {nd : Tm → Nat} {fr : Int} : ∀ (l : List Tm) (pos : Nat) (p : PS), (∀ t ∈ l, PtOk g nd t) → (ptL g fr l pos p).1.1.length = p.1.length + sumL nd l ∧ (ptL g fr l pos p).1.2.length ≤ max p.2.length 200
 | [], pos, p, _ => ⟨rfl, Nat.le_max_left _ _⟩
 | t :: r, pos, p, h => by
  have a := h t (.head _) p
  have b := ptL_len (fr := fr) r (pos + 2) (((g p t).1.1.set pos (g p t).2.1).set (pos + 1) (mkW 5 (fr + pos + 2)), (g p t).1.2) fun u hu => h u (.tail _ hu)
  simp only [List.length_set] at b
  rw [ptL, sumL]
  simp only
  omega
theorem pt_ok {fr : Int} : ∀ (f : Nat) (t : Tm), Wf f t → PtOk (pt fr f) (needT f) t
 | 0, t, hw => by obtain ⟨d, x, _, hx⟩ := hw; rw [lk] at hx; omega
 | f + 1, .mk k n s l, hw => fun p => by
  obtain ⟨hsh, hch⟩ := hw.open
  obtain ⟨ks, k0, _⟩ := sh_kinds hsh
  have ih : ∀ t ∈ l, PtOk (pt fr f) (needT f) t := fun t ht => pt_ok f t (hch t ht)
  have leaf : k ≠ 4 → k ≠ 5 → sumL (needT f) l = 0 := fun a b => by
   have : l = [] := List.eq_nil_of_length_eq_zero (k0 a b)
   subst this; rfl
  rw [pt, needT]
  unfold ndN
  by_cases c1 : k = 1
  ·rw [if_pos c1, if_neg (by omega), if_neg (by omega), if_neg (by omega), leaf (by omega) (by omega)]
   exact ⟨rfl, Nat.le_max_left _ _⟩
  rw [if_neg c1]
  by_cases c2 : k = 2
  ·rw [if_pos c2, if_neg (by omega), if_neg (by omega), if_neg (by omega), leaf (by omega) (by omega)]
   exact ⟨rfl, addA_len _ _⟩
  rw [if_neg c2]
  by_cases c3 : k = 3
  ·rw [if_pos c3, if_neg (by omega), if_neg (by omega), if_neg (by omega), leaf (by omega) (by omega)]
   exact ⟨rfl, Nat.le_max_left _ _⟩
  rw [if_neg c3]
  by_cases c6 : k = 6
  ·rw [if_pos c6, if_neg (by omega), if_neg (by omega), if_pos c6, leaf (by omega) (by omega)]
   refine ⟨?_, Nat.le_max_left _ _⟩
   simp only [List.length_append, List.length_cons, bsL_len]
   omega
  rw [if_neg c6]
  by_cases c4 : k = 4
  ·rw [if_pos c4, if_pos c4]
   have := ptT_len (g := pt fr f) l (p.1.length + 1) (p.1 ++ (l.length : Int) :: List.replicate l.length 0, p.2) ih
   simp only [List.length_append, List.length_cons, List.length_replicate] at this ⊢
   omega
  rw [if_neg c4, if_neg c4, if_pos (show k = 5 by omega)]
  by_cases cl : l = []
  ·rw [if_pos cl]
   subst cl
   exact ⟨rfl, Nat.le_max_left _ _⟩
  ·rw [if_neg cl]
   have := ptL_len (g := pt fr f) (fr := fr) l p.1.length (p.1 ++ List.replicate (2 * l.length) 0, p.2) ih
   simp only [List.length_append, List.length_replicate, List.length_set] at this ⊢
   omega
abbrev rW (base : Nat) (a : Option Addr) (l : List Int) : Rs := ⟨blk a, true, fun y => Own base 3 y a (iv .i64 l)⟩
theorem setAt_ivs {l : List Int} {j : Nat} {v : Int} (hj : j < l.length) : setAt (iv .i64 l) j [.int .i64 v] = iv .i64 (l.set j v) := by
 unfold setAt iv
 rw [List.set_eq_take_append_cons_drop, if_pos hj]
 simp
theorem rep_ivs : ∀ n, rep [Value.int .i64 0] n = iv .i64 (List.replicate n 0)
 | 0 => rfl
 | n + 1 => by simp only [rep, rep_ivs n]; rfl
theorem Hs.setW {base i j : Nat} {V : Fp} {h0 h : AH} {D : Ds} {R : List Rs} {a : Option Addr} {l : List Int} {v : Int} (d : Hs base V h0 h D R) (ei : R[i]? = some (rW base a l)) (hj : j < l.length) :
  ∃ ad h', a = some ad ∧ Am.wr base h ad.block (ad.off + j) [.int .i64 v] = some h' ∧ Hs base V h0 h' D (R.set i (rW base a (l.set j v))) ∧ KB (blk a) h h' := by
 obtain ⟨ad, h', ea, ew, ow, kw, _⟩ := Own.wrA (d.rs ei : Own base 3 h a (iv .i64 l)) (i := j) (new := [.int .i64 v]) (by simp; omega) (by simp)
 rw [setAt_ivs hj] at ow
 exact ⟨ad, h', ea, ew, d.upd (r := rW base a l) (r' := rW base a (l.set j v)) (Upd.at ei) rfl rfl kw (fun b hb => .inl hb) ow (fun U y y' k hs z => z.keep k hs) (fun b hb => .inl hb), kw⟩
theorem Hs.extW {base i m : Nat} {V : Fp} {h0 h : AH} {D : Ds} {R : List Rs} {a : Option Addr} {l new : List Int} {src : Option (List Value)} (d : Hs base V h0 h D R) (ei : R[i]? = some (rW base a l)) (hs : src = some (iv .i64 new)) (hm : new.length = m) (hl : l.length + m ≤ 1000000) :
  ∃ a' h', Am.app base h 3 1 8 a l.length src m = some (.slice a' (l.length + m) (l.length + m), h') ∧ Hs base V h0 h' D (R.set i (rW base a' (l ++ new))) ∧ KB (blk a) h h' := by
 obtain ⟨a', h', e, d, k⟩ := d.appN (i := i) (n := l.length) (m := m) (sz := 1) (bytes := 8) ei (fun b hb => hb) (by simp) (by decide) hs (by omega) (by omega) (by simp [hm])
 rw [iv_append] at d
 exact ⟨a', h', e, d, k⟩
theorem Hs.sw4 {base : Nat} {V : Fp} {h0 h : AH} {D : Ds} {x y z c : Rs} (d : Hs base V h0 h D [x, y, z, c]) : Hs base V h0 h D [c, y, z, x] := by
 have d := d.frontR (Del.at (i := 2) rfl)
 have d := d.frontR (Del.at (i := 2) rfl)
 exact d.frontR (Del.at (i := 3) rfl)
abbrev ptV (a : Option Addr) (n : Nat) (fr : Int) (aa : Option Addr) (m : Nat) (bad : Bool) : List Value := [.slice a n n, .int .i64 fr, .slice aa m m, .bool bad]
abbrev rTR (P : Fp) (f : Nat) (t : Tm) (cs : List Value) : Rs := ⟨P, false, fun y => TmR y P f t cs⟩
abbrev rTSR (P : Fp) (f : Nat) (l : List Tm) (a : Option Addr) : Rs := ⟨P, false, fun y => TsR y P f l a⟩
theorem imP {P : Fp} {A B : AH → Prop} {y z : Rs} (hy : y.mu = true) (hz : z.mu = true) {R1 : List Rs} : ∀ r ∈ [(⟨P, false, A⟩ : Rs), y, z], r.mu = false → ∃ r0 ∈ (⟨P, false, B⟩ : Rs) :: R1, r0.mu = false ∧ r0.S = r.S := by
 intro r hr hm
 simp only [List.mem_cons, List.not_mem_nil, or_false] at hr
 rcases hr with rfl | rfl | rfl
 ·exact ⟨_, .head _, rfl, rfl⟩
 ·rw [hy] at hm; cases hm
 ·rw [hz] at hm; cases hm
def PutR (base : Nat) (f : Nat) : Prop := ∀ (pb : Nat) (fr : Int) (P : Fp) (t : Tm) (cs : List Value) (w : List Int) (ats : List ByteArray) (a aa : Option Addr) (bad : Bool) (V : Fp) (h0 h : AH), Wf f t → (0 ≤ fr ∧ fr ≤ 200000) → w.length + needT f t ≤ 100000 → ats.length ≤ 1048576 →
 Hs base V h0 h [(pb, 166, ptV a w.length fr aa ats.length bad)] [rTR P f t cs, rW base a w, rSt base aa ats] →
 Wp (run (Et base) 136 [.pointer (at0 pb), .agg cs.toArray] h) fun o => ∃ a' aa', o.1 = .int .i64 (pt fr f (w, ats) t).2.1 ∧ Hs base V h0 o.2 [(pb, 166, ptV a' (pt fr f (w, ats) t).1.1.length fr aa' (pt fr f (w, ats) t).1.2.length (bad || !(pt fr f (w, ats) t).2.2))] [rTR P f t cs, rW base a' (pt fr f (w, ats) t).1.1, rSt base aa' (pt fr f (w, ats) t).1.2]
theorem room_run {base pb n : Nat} {fr : Int} {R : List Rs} {x : Rs} {w : List Int} {ats : List ByteArray} {a aa : Option Addr} {bad : Bool} {V : Fp} {h0 h : AH} {D : Ds} (hn : w.length + n ≤ 1000000) (d : Hs base V h0 h ((pb, 166, ptV a w.length fr aa ats.length bad) :: D) (x :: rW base a w :: R)) :
  Wp (run (Et base) 176 [.pointer (at0 pb), .int .i64 (n : Int)] h) fun o => ∃ a', o.1 = .int .i64 (w.length : Int) ∧ Hs base V h0 o.2 ((pb, 166, ptV a' (w ++ List.replicate n 0).length fr aa ats.length bad) :: D) (x :: rW base a' (w ++ List.replicate n 0) :: R) := by
 refine W.of (fun r hx => Am.r176 hx) ?_
 ((try simp only [n1, n2, n3, n4, n5, n6] at d); (with_reducible repeat first | refine W.a1 d ?_ | refine W.a2 ?_ | refine W.a3 ?_ | refine W.bo ?_ | refine W.a5 d fun hw d lw kw => ?_ | refine W.a6 d ?_ | refine W.a7 ?_ | refine W.a8 ?_))
 refine W.ifT ⟨by omega, by omega⟩ ?_
 obtain ⟨a', h2, e2, d, _⟩ := d.extW (i := 1) (m := n) (new := List.replicate n 0) (src := some (rep [.int .i64 0] (Int.toNat (n : Int)))) rfl (by rw [Int.toNat_natCast, rep_ivs]) (by simp) (by omega)
 rw [Int.toNat_natCast] at e2 ⊢
 refine W.bs e2 ?_
 ((try simp only [n1, n2, n3, n4, n5, n6] at d); (with_reducible repeat first | refine W.a1 d ?_ | refine W.a2 ?_ | refine W.a3 ?_ | refine W.bo ?_ | refine W.a5 d fun hw d lw kw => ?_ | refine W.a6 d ?_ | refine W.a7 ?_ | refine W.a8 ?_))
 rw [show w.length + n = (w ++ List.replicate n 0).length from by simp] at d
 exact W.ret ⟨a', rfl, d⟩
end Go.Proofs.Ytjmkbglnjklbcaa.Am
set_option linter.unusedSimpArgs false
set_option linter.unusedVariables false
namespace Go.Proofs.Ytjmkbglnjklbcaa.Am
open Go Go.RowKit
theorem set_bin {w0 B : List Int} {c : Int} {i : Nat} (hi : i < B.length) : (w0 ++ c :: (B.take i ++ List.replicate (B.length - i) 0)).set (w0.length + 1 + i) B[i] = w0 ++ c :: (B.take (i + 1) ++ List.replicate (B.length - (i + 1)) 0) := by
 have e1 : B.length - i = (B.length - (i + 1)) + 1 := by omega
 have e2 : (B.take i).length = i := by rw [List.length_take]; omega
 rw [e1, List.replicate_succ, List.set_append_right _ _ (by omega), show w0.length + 1 + i - w0.length = i + 1 from by omega, List.set_cons_succ, List.set_append_right _ _ (by omega), e2, Nat.sub_self, List.set_cons_zero, List.take_succ_eq_append_getElem hi, List.append_assoc]
 rfl
theorem putBin_loop {base pb tb : Nat} {fr : Int} {x : Rs} {ats : List ByteArray} {aa : Option Addr} {bad : Bool} {V : Fp} {h0 : AH} {k n : Int} {s : ByteArray} {ta : Option Addr} {m : Nat} {w0 : List Int} (hs : s.size ≤ 40) (hw : w0.length ≤ 100000) : ∀ (r i : Nat) (h : AH) (a : Option Addr), i + r = s.size → Hs base V h0 h [(pb, 166, ptV a (w0.length + 1 + s.size) fr aa ats.length bad), (tb, 39, termV k n s ta m)] [x, rW base a (w0 ++ (s.size : Int) :: ((bsL s).take i ++ List.replicate ((bsL s).length - i) 0)), rSt base aa ats] →
  Wp (loopL (B136_0 base) [some (.pointer (at0 pb)), some (.pointer (at0 tb)), some (.int .i64 (w0.length : Int)), some (.int .i64 (i : Int))] h) fun o => o.1 = 3 ∧ o.2.1 = [some (.pointer (at0 pb)), some (.int .i64 (w0.length : Int))] ∧ Hs base V h0 o.2.2 [(pb, 166, ptV a (w0.length + 1 + s.size) fr aa ats.length bad), (tb, 39, termV k n s ta m)] [x, rW base a (w0 ++ (s.size : Int) :: bsL s), rSt base aa ats] := by
 have hbl := bsL_len s
 intro r
 induction r with
 | zero =>
  intro i h a hi d
  suffices w1 : Wp (B136_0 base [some (.pointer (at0 pb)), some (.pointer (at0 tb)), some (.int .i64 (w0.length : Int)), some (.int .i64 (i : Int))] h) fun o => o = (3, [some (.pointer (at0 pb)), some (.int .i64 (w0.length : Int))], h) by
   obtain ⟨o, e, rfl⟩ := w1
   refine ⟨_, loop_off (by decide) e, rfl, rfl, ?_⟩
   rw [List.take_of_length_le (by omega), show (bsL s).length - i = 0 from by omega, List.replicate_zero, List.append_nil] at d
   exact d
  rw [B136_0_eq]
  ((try simp only [n1, n2, n3, n4, n5, n6] at d); (with_reducible repeat first | refine W.a1 d ?_ | refine W.a2 ?_ | refine W.a3 ?_ | refine W.bo ?_ | refine W.a5 d fun hw d lw kw => ?_ | refine W.a6 d ?_ | refine W.a7 ?_ | refine W.a8 ?_))
  exact W.ifF (by simp; omega) (W.ret rfl)
 | succ r ihr =>
  intro i h a hi d
  have hlt : i < (bsL s).length := by omega
  suffices w1 : Wp (B136_0 base [some (.pointer (at0 pb)), some (.pointer (at0 tb)), some (.int .i64 (w0.length : Int)), some (.int .i64 (i : Int))] h) fun o => o.1 = 0 ∧ o.2.1 = [some (.pointer (at0 pb)), some (.pointer (at0 tb)), some (.int .i64 (w0.length : Int)), some (.int .i64 ((i + 1 : Nat) : Int))] ∧ Hs base V h0 o.2.2 [(pb, 166, ptV a (w0.length + 1 + s.size) fr aa ats.length bad), (tb, 39, termV k n s ta m)] [x, rW base a (w0 ++ (s.size : Int) :: ((bsL s).take (i + 1) ++ List.replicate ((bsL s).length - (i + 1)) 0)), rSt base aa ats] by
   obtain ⟨⟨o1, o2, h'⟩, e, y1, y2, d'⟩ := w1
   simp only at y1 y2 d'
   subst y1; subst y2
   obtain ⟨o, eo, q⟩ := ihr (i + 1) h' a (by omega) d'
   exact ⟨o, loop_on e eo, q⟩
  rw [B136_0_eq]
  ((try simp only [n1, n2, n3, n4, n5, n6] at d); (with_reducible repeat first | refine W.a1 d ?_ | refine W.a2 ?_ | refine W.a3 ?_ | refine W.bo ?_ | refine W.a5 d fun hw d lw kw => ?_ | refine W.a6 d ?_ | refine W.a7 ?_ | refine W.a8 ?_))
  refine W.ifT (decide_eq_true (by omega)) ?_
  ((try simp only [n1, n2, n3, n4, n5, n6] at d); (with_reducible repeat first | refine W.a1 d ?_ | refine W.a2 ?_ | refine W.a3 ?_ | refine W.bo ?_ | refine W.a5 d fun hw d lw kw => ?_ | refine W.a6 d ?_ | refine W.a7 ?_ | refine W.a8 ?_))
  rw [w64i (n := (w0.length : Int) + 1) (by omega) (by omega), w64i (n := (w0.length : Int) + 1 + (i : Int)) (by omega) (by omega), w64i (n := (i : Int) + 1) (by omega) (by omega)]
  have hv : IntKind.wrap .i64 ((s.data.toList.getD (Int.toNat (i : Int)) 0).toNat : Int) = (bsL s)[i] := by
   have hd : i < s.data.toList.length := by rw [Array.length_toList]; exact Nat.lt_of_lt_of_le hlt (by rw [hbl]; exact Nat.le_refl _)
   have e1 : (bsL s)[i] = ((s.data.toList[i]).toNat : Int) := List.getElem_map _
   rw [Int.toNat_natCast, List.getD_eq_getElem?_getD, List.getElem?_eq_getElem hd, Option.getD_some, e1]
   have := (s.data.toList[i]).toNat_lt
   exact w64i (by omega) (by omega)
  rw [hv]
  refine W.ifT ⟨by omega, by omega⟩ ?_
  obtain ⟨ad, h5, ea, ew, d, _⟩ := d.setW (i := 1) (j := w0.length + 1 + i) (v := (bsL s)[i]) rfl (by simp [hbl]; omega)
  subst ea
  refine W.bs rfl (W.bs (by rw [show Int.toNat ((w0.length : Int) + 1 + (i : Int)) * 1 = w0.length + 1 + i from by omega]; exact ew) ?_)
  simp only [n3, n4] at d
  rw [set_bin hlt] at d
  exact W.ret ⟨rfl, rfl, d⟩
theorem putTup_loop {base pb f at_ : Nat} {fr : Int} {P : Fp} {l : List Tm} {al : Option Addr} {V : Fp} {h0 : AH} (hfr : 0 ≤ fr ∧ fr ≤ 200000) (hl : l.length ≤ 20) (hw : ∀ t ∈ l, Wf f t) (ih : PutR base f) : ∀ (r i : Nat) (h : AH) (w : List Int) (ats : List ByteArray) (a aa : Option Addr) (bad : Bool), i + r = l.length → at_ + 1 + l.length ≤ w.length → w.length + sumL (needT f) (l.drop i) ≤ 100000 → ats.length ≤ 1048576 → Hs base V h0 h [(pb, 166, ptV a w.length fr aa ats.length bad)] [rTSR P f l al, rW base a w, rSt base aa ats] →
  Wp (loopL (B136_1 base) [some (.pointer (at0 pb)), some (.int .i64 (at_ : Int)), some (.slice al l.length l.length), some (.int .i64 (l.length : Int)), some (.int .i64 (i : Int))] h) fun o => ∃ a' aa', o.1 = 5 ∧ o.2.1 = [some (.pointer (at0 pb)), some (.int .i64 (at_ : Int))] ∧ Hs base V h0 o.2.2 [(pb, 166, ptV a' (ptT (pt fr f) (l.drop i) (at_ + 1 + i) (w, ats)).1.1.length fr aa' (ptT (pt fr f) (l.drop i) (at_ + 1 + i) (w, ats)).1.2.length (bad || !(ptT (pt fr f) (l.drop i) (at_ + 1 + i) (w, ats)).2))] [rTSR P f l al, rW base a' (ptT (pt fr f) (l.drop i) (at_ + 1 + i) (w, ats)).1.1, rSt base aa' (ptT (pt fr f) (l.drop i) (at_ + 1 + i) (w, ats)).1.2] := by
 intro r
 induction r with
 | zero =>
  intro i h w ats a aa bad hi hat hn hal d
  suffices w1 : Wp (B136_1 base [some (.pointer (at0 pb)), some (.int .i64 (at_ : Int)), some (.slice al l.length l.length), some (.int .i64 (l.length : Int)), some (.int .i64 (i : Int))] h) fun o => o = (5, [some (.pointer (at0 pb)), some (.int .i64 (at_ : Int))], h) by
   obtain ⟨o, e, rfl⟩ := w1
   refine ⟨_, loop_off (by decide) e, a, aa, rfl, rfl, ?_⟩
   rw [List.drop_of_length_le (by omega), ptT]
   simpa using d
  rw [B136_1_eq]
  exact W.ifF (by simp; omega) (W.ret rfl)
 | succ r ihr =>
  intro i h w ats a aa bad hi hat hn hal d
  have hlt : i < l.length := by omega
  have hwi := hw l[i] (List.getElem_mem _)
  have ed : l.drop i = l[i] :: l.drop (i + 1) := List.drop_eq_getElem_cons hlt
  have hn2 := hn
  rw [ed, sumL] at hn2
  obtain ⟨pk1, pk2⟩ := pt_ok (fr := fr) f l[i] hwi (w, ats)
  simp only at pk1 pk2
  generalize hq : pt fr f (w, ats) l[i] = q at pk1 pk2
  suffices w1 : Wp (B136_1 base [some (.pointer (at0 pb)), some (.int .i64 (at_ : Int)), some (.slice al l.length l.length), some (.int .i64 (l.length : Int)), some (.int .i64 (i : Int))] h) fun o => ∃ a' aa', o.1 = 0 ∧ o.2.1 = [some (.pointer (at0 pb)), some (.int .i64 (at_ : Int)), some (.slice al l.length l.length), some (.int .i64 (l.length : Int)), some (.int .i64 ((i + 1 : Nat) : Int))] ∧ Hs base V h0 o.2.2 [(pb, 166, ptV a' (q.1.1.set (at_ + 1 + i) q.2.1).length fr aa' q.1.2.length (bad || !q.2.2))] [rTSR P f l al, rW base a' (q.1.1.set (at_ + 1 + i) q.2.1), rSt base aa' q.1.2] by
   obtain ⟨⟨o1, o2, h'⟩, e, a', aa', y1, y2, d'⟩ := w1
   simp only at y1 y2 d'
   subst y1; subst y2
   obtain ⟨o, eo, a2, aa2, z1, z2, z3⟩ := ihr (i + 1) h' _ _ a' aa' _ (by omega) (by rw [List.length_set]; omega) (by rw [List.length_set]; omega) (by omega) d'
   refine ⟨o, loop_on e eo, a2, aa2, z1, z2, ?_⟩
   rw [ed, ptT, hq]
   simp only [Bool.not_and]
   rw [← Bool.or_assoc, show at_ + 1 + i + 1 = at_ + 1 + (i + 1) from by omega]
   exact z3
  rw [B136_1_eq]
  refine W.ifT (decide_eq_true (by omega)) (W.ifT (by omega) ?_)
  cases f with
  | zero => obtain ⟨d', x, _, hx⟩ := hwi; rw [lk] at hx; omega
  | succ f =>
   refine W.t4 (d.rs (i := 0) rfl : TsR h P (f + 1) l al) hlt fun k n s a2 l2 el hm _ hsz hln => ?_
   rw [← el] at hm
   have d := d.also (i := 0) rfl rfl (fun y => TmR y P (f + 1) l[i] (termV k n s a2 l2.length)) hm (fun U y y' ky hs x => TmR.keep ky hs _ _ _ x)
   ((try simp only [n1, n2, n3, n4, n5, n6] at d); (with_reducible repeat first | refine W.a1 d ?_ | refine W.a2 ?_ | refine W.a3 ?_ | refine W.bo ?_ | refine W.a5 d fun hw d lw kw => ?_ | refine W.a6 d ?_ | refine W.a7 ?_ | refine W.a8 ?_); (refine W.nD d fun h2 d _ kh2 => ?_); (with_reducible repeat first | refine W.a1 d ?_ | refine W.a2 ?_ | refine W.a3 ?_ | refine W.bo ?_ | refine W.a5 d fun hw d lw kw => ?_ | refine W.a6 d ?_ | refine W.a7 ?_ | refine W.a8 ?_))
   have d := (d.front (Del.at (i := 1) rfl)).sw4
   simp only [n5, n6] at d
   have d1 := Hs.part (D1 := [_]) (R1 := [_, _, _]) d
   refine W.wb (ih pb fr P l[i] _ w ats a aa bad _ _ _ hwi hfr (by omega) hal d1) ?_
   rintro ⟨u, h4⟩ ⟨a', aa', y1, d2⟩
   simp only at y1 d2
   subst y1
   have d := (Hs.back (D1 := [_]) (R1 := [_, _, _]) d d2 (imP rfl rfl)).sw4
   rw [hq] at d ⊢
   have d := (d.takeD 1).takeR 3
   clear d1 d2
   ((try simp only [n1, n2, n3, n4, n5, n6] at d); (with_reducible repeat first | refine W.a1 d ?_ | refine W.a2 ?_ | refine W.a3 ?_ | refine W.bo ?_ | refine W.a5 d fun hw d lw kw => ?_ | refine W.a6 d ?_ | refine W.a7 ?_ | refine W.a8 ?_))
   rw [w64i (n := (at_ : Int) + 1) (by omega) (by omega), w64i (n := (at_ : Int) + 1 + (i : Int)) (by omega) (by omega), w64i (n := (i : Int) + 1) (by omega) (by omega)]
   refine W.ifT ⟨by omega, by omega⟩ ?_
   obtain ⟨ad, h5, ea, ew, d, _⟩ := d.setW (i := 1) (j := at_ + 1 + i) (v := q.2.1) rfl (by omega)
   subst ea
   refine W.bs rfl (W.bs (by rw [show Int.toNat ((at_ : Int) + 1 + (i : Int)) * 1 = at_ + 1 + i from by omega]; exact ew) ?_)
   refine W.ret ⟨some ad, aa', rfl, rfl, ?_⟩
   rw [List.length_set]
   exact d
end Go.Proofs.Ytjmkbglnjklbcaa.Am
set_option linter.unusedSimpArgs false
set_option linter.unusedVariables false
namespace Go.Proofs.Ytjmkbglnjklbcaa.Am
open Go Go.RowKit
theorem putList_loop {base pb f at_ : Nat} {fr : Int} {P : Fp} {l : List Tm} {al : Option Addr} {V : Fp} {h0 : AH} (hfr : 0 ≤ fr ∧ fr ≤ 200000) (hl : l.length ≤ 20) (hw : ∀ t ∈ l, Wf f t) (ih : PutR base f) : ∀ (r i : Nat) (h : AH) (w : List Int) (ats : List ByteArray) (a aa : Option Addr) (bad : Bool), i + r = l.length → at_ + 2 * l.length ≤ w.length → w.length + sumL (needT f) (l.drop i) ≤ 100000 → ats.length ≤ 1048576 → Hs base V h0 h [(pb, 166, ptV a w.length fr aa ats.length bad)] [rTSR P f l al, rW base a w, rSt base aa ats] →
  Wp (loopL (B177_0 base) [some (.pointer (at0 pb)), some (.slice al l.length l.length), some (.int .i64 (at_ : Int)), some (.slice al l.length l.length), some (.int .i64 (l.length : Int)), some (.int .i64 (i : Int))] h) fun o => ∃ a' aa', o.1 = 2 ∧ o.2.1 = [some (.pointer (at0 pb)), some (.slice al l.length l.length), some (.int .i64 (at_ : Int))] ∧ Hs base V h0 o.2.2 [(pb, 166, ptV a' (ptL (pt fr f) fr (l.drop i) (at_ + 2 * i) (w, ats)).1.1.length fr aa' (ptL (pt fr f) fr (l.drop i) (at_ + 2 * i) (w, ats)).1.2.length (bad || !(ptL (pt fr f) fr (l.drop i) (at_ + 2 * i) (w, ats)).2))] [rTSR P f l al, rW base a' (ptL (pt fr f) fr (l.drop i) (at_ + 2 * i) (w, ats)).1.1, rSt base aa' (ptL (pt fr f) fr (l.drop i) (at_ + 2 * i) (w, ats)).1.2] := by
 intro r
 induction r with
 | zero =>
  intro i h w ats a aa bad hi hat hn hal d
  suffices w1 : Wp (B177_0 base [some (.pointer (at0 pb)), some (.slice al l.length l.length), some (.int .i64 (at_ : Int)), some (.slice al l.length l.length), some (.int .i64 (l.length : Int)), some (.int .i64 (i : Int))] h) fun o => o = (2, [some (.pointer (at0 pb)), some (.slice al l.length l.length), some (.int .i64 (at_ : Int))], h) by
   obtain ⟨o, e, rfl⟩ := w1
   refine ⟨_, loop_off (by decide) e, a, aa, rfl, rfl, ?_⟩
   rw [List.drop_of_length_le (by omega), ptL]
   simpa using d
  rw [B177_0_eq]
  exact W.ifF (by simp; omega) (W.ret rfl)
 | succ r ihr =>
  intro i h w ats a aa bad hi hat hn hal d
  have hlt : i < l.length := by omega
  have hwi := hw l[i] (List.getElem_mem _)
  have ed : l.drop i = l[i] :: l.drop (i + 1) := List.drop_eq_getElem_cons hlt
  have hn2 := hn
  rw [ed, sumL] at hn2
  obtain ⟨pk1, pk2⟩ := pt_ok (fr := fr) f l[i] hwi (w, ats)
  simp only at pk1 pk2
  generalize hq : pt fr f (w, ats) l[i] = q at pk1 pk2
  suffices w1 : Wp (B177_0 base [some (.pointer (at0 pb)), some (.slice al l.length l.length), some (.int .i64 (at_ : Int)), some (.slice al l.length l.length), some (.int .i64 (l.length : Int)), some (.int .i64 (i : Int))] h) fun o => ∃ a' aa', o.1 = 0 ∧ o.2.1 = [some (.pointer (at0 pb)), some (.slice al l.length l.length), some (.int .i64 (at_ : Int)), some (.slice al l.length l.length), some (.int .i64 (l.length : Int)), some (.int .i64 ((i + 1 : Nat) : Int))] ∧ Hs base V h0 o.2.2 [(pb, 166, ptV a' ((q.1.1.set (at_ + 2 * i) q.2.1).set (at_ + 2 * i + 1) (mkW 5 (fr + (at_ + 2 * i : Nat) + 2))).length fr aa' q.1.2.length (bad || !q.2.2))] [rTSR P f l al, rW base a' ((q.1.1.set (at_ + 2 * i) q.2.1).set (at_ + 2 * i + 1) (mkW 5 (fr + (at_ + 2 * i : Nat) + 2))), rSt base aa' q.1.2] by
   obtain ⟨⟨o1, o2, h'⟩, e, a', aa', y1, y2, d'⟩ := w1
   simp only at y1 y2 d'
   subst y1; subst y2
   obtain ⟨o, eo, a2, aa2, z1, z2, z3⟩ := ihr (i + 1) h' _ _ a' aa' _ (by omega) (by rw [List.length_set, List.length_set]; omega) (by rw [List.length_set, List.length_set]; omega) (by omega) d'
   refine ⟨o, loop_on e eo, a2, aa2, z1, z2, ?_⟩
   rw [ed, ptL, hq]
   simp only [Bool.not_and]
   rw [← Bool.or_assoc, show at_ + 2 * i + 2 = at_ + 2 * (i + 1) from by omega]
   exact z3
  rw [B177_0_eq]
  refine W.ifT (decide_eq_true (by omega)) (W.ifT (by omega) ?_)
  cases f with
  | zero => obtain ⟨d', x, _, hx⟩ := hwi; rw [lk] at hx; omega
  | succ f =>
   refine W.t4 (d.rs (i := 0) rfl : TsR h P (f + 1) l al) hlt fun k n s a2 l2 el hm _ hsz hln => ?_
   rw [← el] at hm
   have d := d.also (i := 0) rfl rfl (fun y => TmR y P (f + 1) l[i] (termV k n s a2 l2.length)) hm (fun U y y' ky hs x => TmR.keep ky hs _ _ _ x)
   ((try simp only [n1, n2, n3, n4, n5, n6] at d); (with_reducible repeat first | refine W.a1 d ?_ | refine W.a2 ?_ | refine W.a3 ?_ | refine W.bo ?_ | refine W.a5 d fun hw d lw kw => ?_ | refine W.a6 d ?_ | refine W.a7 ?_ | refine W.a8 ?_); (refine W.nD d fun h2 d _ kh2 => ?_); (with_reducible repeat first | refine W.a1 d ?_ | refine W.a2 ?_ | refine W.a3 ?_ | refine W.bo ?_ | refine W.a5 d fun hw d lw kw => ?_ | refine W.a6 d ?_ | refine W.a7 ?_ | refine W.a8 ?_))
   have d := (d.front (Del.at (i := 1) rfl)).sw4
   simp only [n5, n6] at d
   have d1 := Hs.part (D1 := [_]) (R1 := [_, _, _]) d
   refine W.wb (ih pb fr P l[i] _ w ats a aa bad _ _ _ hwi hfr (by omega) hal d1) ?_
   rintro ⟨u, h4⟩ ⟨a', aa', y1, d2⟩
   simp only at y1 d2
   subst y1
   have d := (Hs.back (D1 := [_]) (R1 := [_, _, _]) d d2 (imP rfl rfl)).sw4
   rw [hq] at d ⊢
   have d := (d.takeD 1).takeR 3
   clear d1 d2
   ((try simp only [n1, n2, n3, n4, n5, n6] at d); (with_reducible repeat first | refine W.a1 d ?_ | refine W.a2 ?_ | refine W.a3 ?_ | refine W.bo ?_ | refine W.a5 d fun hw d lw kw => ?_ | refine W.a6 d ?_ | refine W.a7 ?_ | refine W.a8 ?_))
   rw [w64i (n := 2 * (i : Int)) (by omega) (by omega), w64i (n := (at_ : Int) + 2 * (i : Int)) (by omega) (by omega), w64i (n := (i : Int) + 1) (by omega) (by omega)]
   refine W.ifT ⟨by omega, by omega⟩ ?_
   obtain ⟨ad, h5, ea, ew, d, _⟩ := d.setW (i := 1) (j := at_ + 2 * i) (v := q.2.1) rfl (by omega)
   subst ea
   refine W.bs rfl (W.bs (by rw [show Int.toNat ((at_ : Int) + 2 * (i : Int)) * 1 = at_ + 2 * i from by omega]; exact ew) ?_)
   ((try simp only [n1, n2, n3, n4, n5, n6] at d); (with_reducible repeat first | refine W.a1 d ?_ | refine W.a2 ?_ | refine W.a3 ?_ | refine W.bo ?_ | refine W.a5 d fun hw d lw kw => ?_ | refine W.a6 d ?_ | refine W.a7 ?_ | refine W.a8 ?_))
   rw [w64i (n := fr + (at_ : Int)) (by omega) (by omega), w64i (n := fr + (at_ : Int) + 2 * (i : Int)) (by omega) (by omega), w64i (n := fr + (at_ : Int) + 2 * (i : Int) + 2) (by omega) (by omega)]
   refine W.bs implMk_run ?_
   ((try simp only [n1, n2, n3, n4, n5, n6] at d); (with_reducible repeat first | refine W.a1 d ?_ | refine W.a2 ?_ | refine W.a3 ?_ | refine W.bo ?_ | refine W.a5 d fun hw d lw kw => ?_ | refine W.a6 d ?_ | refine W.a7 ?_ | refine W.a8 ?_))
   rw [w64i (n := (at_ : Int) + 2 * (i : Int) + 1) (by omega) (by omega)]
   refine W.ifT ⟨by omega, by omega⟩ ?_
   obtain ⟨ad2, h6, ea2, ew2, d, _⟩ := d.setW (i := 1) (j := at_ + 2 * i + 1) (v := mkW 5 (fr + (at_ : Int) + 2 * (i : Int) + 2)) rfl (by rw [List.length_set]; omega)
   injection ea2 with ea2
   subst ea2
   refine W.bs rfl (W.bs (by rw [show Int.toNat ((at_ : Int) + 2 * (i : Int) + 1) * 1 = at_ + 2 * i + 1 from by omega]; exact ew2) ?_)
   refine W.ret ⟨some ad, aa', rfl, rfl, ?_⟩
   rw [List.length_set, List.length_set, show fr + ((at_ + 2 * i : Nat) : Int) + 2 = fr + (at_ : Int) + 2 * (i : Int) + 2 from by omega]
   exact d
theorem pt_list {fr : Int} {f : Nat} {p : PS} {l : List Tm} {k n : Int} {s : ByteArray} (hk : k ≠ 1 ∧ k ≠ 2 ∧ k ≠ 3 ∧ k ≠ 6 ∧ k ≠ 4) : pt fr (f + 1) p (.mk k n s l) = if l = [] then (p, 3, true) else (((ptL (pt fr f) fr l p.1.length (p.1 ++ List.replicate (2 * l.length) 0, p.2)).1.1.set (p.1.length + 2 * l.length - 1) 3, (ptL (pt fr f) fr l p.1.length (p.1 ++ List.replicate (2 * l.length) 0, p.2)).1.2), mkW 5 (fr + p.1.length), (ptL (pt fr f) fr l p.1.length (p.1 ++ List.replicate (2 * l.length) 0, p.2)).2) := by
 obtain ⟨a, b, c, d, e⟩ := hk
 rw [pt, if_neg a, if_neg b, if_neg c, if_neg d, if_neg e]
theorem putList_run {base pb f : Nat} {fr : Int} {P : Fp} {l : List Tm} {al : Option Addr} {V : Fp} {h0 h : AH} {w : List Int} {ats : List ByteArray} {a aa : Option Addr} {bad : Bool} (hfr : 0 ≤ fr ∧ fr ≤ 200000) (hl : l.length ≤ 20) (hw : ∀ t ∈ l, Wf f t) (ih : PutR base f) (hn : w.length + 2 * l.length + sumL (needT f) l ≤ 100000) (hal : ats.length ≤ 1048576) (d : Hs base V h0 h [(pb, 166, ptV a w.length fr aa ats.length bad)] [rTSR P f l al, rW base a w, rSt base aa ats]) :
  Wp (run (Et base) 177 [.pointer (at0 pb), .slice al l.length l.length] h) fun o => ∃ a' aa', o.1 = .int .i64 (pt fr (f + 1) (w, ats) (.mk 5 0 ⟨#[]⟩ l)).2.1 ∧ Hs base V h0 o.2 [(pb, 166, ptV a' (pt fr (f + 1) (w, ats) (.mk 5 0 ⟨#[]⟩ l)).1.1.length fr aa' (pt fr (f + 1) (w, ats) (.mk 5 0 ⟨#[]⟩ l)).1.2.length (bad || !(pt fr (f + 1) (w, ats) (.mk 5 0 ⟨#[]⟩ l)).2.2))] [rTSR P f l al, rW base a' (pt fr (f + 1) (w, ats) (.mk 5 0 ⟨#[]⟩ l)).1.1, rSt base aa' (pt fr (f + 1) (w, ats) (.mk 5 0 ⟨#[]⟩ l)).1.2] := by
 refine W.of (fun r hx => Am.r177 hx) ?_
 rw [pt_list (by decide)]
 by_cases cl : l = []
 ·rw [if_pos cl]
  refine W.ifT (by rw [cl]; rfl) ?_
  refine W.bs implMk_run ?_
  ((try simp only [n1, n2, n3, n4, n5, n6] at d); (with_reducible repeat first | refine W.a1 d ?_ | refine W.a2 ?_ | refine W.a3 ?_ | refine W.bo ?_ | refine W.a5 d fun hw d lw kw => ?_ | refine W.a6 d ?_ | refine W.a7 ?_ | refine W.a8 ?_))
  refine W.ret ⟨a, aa, rfl, ?_⟩
  simpa using d
 rw [if_neg cl]
 have hpos : 0 < l.length := List.length_pos_iff.2 cl
 refine W.ifF (by simp; omega) ?_
 rw [w64i (n := 2 * (l.length : Int)) (by omega) (by omega), show 2 * (l.length : Int) = ((2 * l.length : Nat) : Int) from by omega]
 refine W.wb (room_run (base := base) (n := 2 * l.length) (by omega) d) ?_
 rintro ⟨u, h1⟩ ⟨a1, y1, d⟩
 simp only at y1 d
 subst y1
 ((try simp only [n1, n2, n3, n4, n5, n6] at d); (with_reducible repeat first | refine W.a1 d ?_ | refine W.a2 ?_ | refine W.a3 ?_ | refine W.bo ?_ | refine W.a5 d fun hw d lw kw => ?_ | refine W.a6 d ?_ | refine W.a7 ?_ | refine W.a8 ?_))
 have hlen : (w ++ List.replicate (2 * l.length) 0).length = w.length + 2 * l.length := by simp
 refine W.wb (putList_loop (base := base) (at_ := w.length) hfr hl hw ih l.length 0 h1 _ ats a1 aa bad (by omega) (by omega) (by rw [List.drop_zero, hlen]; omega) hal d) ?_
 rintro ⟨o1, o2, h2⟩ ⟨a2, aa2, y1, y2, d⟩
 simp only at y1 y2 d
 subst y1; subst y2
 refine W.ifT rfl ?_
 rw [List.drop_zero, Nat.mul_zero, Nat.add_zero] at d
 have hz := ptL_len (g := pt fr f) (fr := fr) (nd := needT f) l w.length (w ++ List.replicate (2 * l.length) 0, ats) (fun t ht => pt_ok f t (hw t ht))
 simp only [hlen] at hz
 generalize ptL (pt fr f) fr l w.length (w ++ List.replicate (2 * l.length) 0, ats) = z at d hz
 ((try simp only [n1, n2, n3, n4, n5, n6] at d); (with_reducible repeat first | refine W.a1 d ?_ | refine W.a2 ?_ | refine W.a3 ?_ | refine W.bo ?_ | refine W.a5 d fun hw d lw kw => ?_ | refine W.a6 d ?_ | refine W.a7 ?_ | refine W.a8 ?_))
 refine W.bs implMk_run ?_
 ((try simp only [n1, n2, n3, n4, n5, n6] at d); (with_reducible repeat first | refine W.a1 d ?_ | refine W.a2 ?_ | refine W.a3 ?_ | refine W.bo ?_ | refine W.a5 d fun hw d lw kw => ?_ | refine W.a6 d ?_ | refine W.a7 ?_ | refine W.a8 ?_))
 rw [w64i (n := 2 * (l.length : Int)) (by omega) (by omega), w64i (n := (w.length : Int) + 2 * (l.length : Int)) (by omega) (by omega), w64i (n := (w.length : Int) + 2 * (l.length : Int) - 1) (by omega) (by omega)]
 refine W.ifT ⟨by omega, by omega⟩ ?_
 obtain ⟨ad, h5, ea, ew, d, _⟩ := d.setW (i := 1) (j := w.length + 2 * l.length - 1) (v := mkW 3 0) rfl (by omega)
 subst ea
 refine W.bs rfl (W.bs (by rw [show Int.toNat ((w.length : Int) + 2 * (l.length : Int) - 1) * 1 = w.length + 2 * l.length - 1 from by omega]; exact ew) ?_)
 simp only [n3, n4] at d
 ((try simp only [n1, n2, n3, n4, n5, n6] at d); (with_reducible repeat first | refine W.a1 d ?_ | refine W.a2 ?_ | refine W.a3 ?_ | refine W.bo ?_ | refine W.a5 d fun hw d lw kw => ?_ | refine W.a6 d ?_ | refine W.a7 ?_ | refine W.a8 ?_))
 rw [w64i (n := fr + (w.length : Int)) (by omega) (by omega)]
 refine W.bs implMk_run ?_
 ((try simp only [n1, n2, n3, n4, n5, n6] at d); (with_reducible repeat first | refine W.a1 d ?_ | refine W.a2 ?_ | refine W.a3 ?_ | refine W.bo ?_ | refine W.a5 d fun hw d lw kw => ?_ | refine W.a6 d ?_ | refine W.a7 ?_ | refine W.a8 ?_))
 refine W.ret ⟨some ad, aa2, rfl, ?_⟩
 rw [show mkW 3 0 = 3 from rfl] at d
 rw [List.length_set]
 exact d
end Go.Proofs.Ytjmkbglnjklbcaa.Am
set_option linter.unusedSimpArgs false
set_option linter.unusedVariables false
namespace Go.Proofs.Ytjmkbglnjklbcaa.Am
open Go Go.RowKit
theorem Hs.pk5 {base : Nat} {V : Fp} {h0 h : AH} {D : Ds} {x y z c e : Rs} (d : Hs base V h0 h D [x, y, z, c, e]) : Hs base V h0 h D [x, y, e] := by
 have d := (d.frontR (Del.at (i := 4) rfl)).takeR 3
 have d := d.frontR (Del.at (i := 1) rfl)
 have d := d.frontR (Del.at (i := 2) rfl)
 exact d.frontR (Del.at (i := 1) rfl)
theorem set_first {w B : List Int} {c : Int} {m : Nat} (hB : B.length = m) : (w ++ List.replicate (1 + m) 0).set w.length c = w ++ c :: (B.take 0 ++ List.replicate (B.length - 0) 0) := by
 rw [Nat.add_comm, List.replicate_succ, List.set_append_right _ _ (Nat.le_refl _), Nat.sub_self, List.set_cons_zero]
 simp [hB]
theorem set_first' {w : List Int} {n : Nat} {c : Int} : (w ++ List.replicate (1 + n) 0).set w.length c = w ++ c :: List.replicate n 0 := by
 rw [Nat.add_comm, List.replicate_succ, List.set_append_right _ _ (Nat.le_refl _), Nat.sub_self, List.set_cons_zero]
theorem neg_dec (z : Int) : decide (z < 0) = !decide (z ≥ 0) := by
 by_cases h : z < 0
 ·rw [decide_eq_true h, decide_eq_false (by omega)]; rfl
 ·rw [decide_eq_false h, decide_eq_true (by omega)]; rfl
theorem put_succ {base f : Nat} (ih : PutR base f) : PutR base (f + 1) := by
 intro pb fr P t cs w ats a aa bad V h0 h hw hfr hn hal d
 obtain ⟨k, n, s, l⟩ := t
 obtain ⟨hsh, hch⟩ := hw.open
 obtain ⟨ks, k0, k1, k3, k4, k5, k6⟩ := sh_kinds hsh
 have hm : TmR h P (f + 1) (.mk k n s l) cs := d.rs (i := 0) rfl
 obtain ⟨al, rfl, hts, hsz, hln⟩ := hm.parts
 have hl20 : l.length ≤ 20 := by
  by_cases c4 : k = 4
  ·have := k4 c4; omega
  ·by_cases c5 : k = 5
   ·exact k5 c5
   ·rw [k0 c4 c5]; omega
 rw [needT] at hn
 have d := d.also (i := 0) rfl rfl (fun y => TsR y P f l al) hts (fun U y y' ky hs x => x.keep ky hs)
 simp only [n5, n6] at d
 refine W.of (fun r hx => Am.r136 hx) ?_
 ((try simp only [n1, n2, n3, n4, n5, n6] at d); (with_reducible repeat first | refine W.a1 d ?_ | refine W.a2 ?_ | refine W.a3 ?_ | refine W.bo ?_ | refine W.a5 d fun hw d lw kw => ?_ | refine W.a6 d ?_ | refine W.a7 ?_ | refine W.a8 ?_); (refine W.nD d fun h1 d _ kh1 => ?_); (with_reducible repeat first | refine W.a1 d ?_ | refine W.a2 ?_ | refine W.a3 ?_ | refine W.bo ?_ | refine W.a5 d fun hw d lw kw => ?_ | refine W.a6 d ?_ | refine W.a7 ?_ | refine W.a8 ?_))
 have d := d.front (Del.at (i := 1) rfl)
 simp only [n5, n6] at d
 refine W.ite (fun c => ?_) (fun c => ?_)
 ·have c : k = 1 := by simpa using c
  have := k1 c
  rw [show pt fr (f + 1) (w, ats) (.mk k n s l) = ((w, ats), mkW 0 (n + 1000000), true) from by rw [pt, if_pos c]]
  ((try simp only [n1, n2, n3, n4, n5, n6] at d); (with_reducible repeat first | refine W.a1 d ?_ | refine W.a2 ?_ | refine W.a3 ?_ | refine W.bo ?_ | refine W.a5 d fun hw d lw kw => ?_ | refine W.a6 d ?_ | refine W.a7 ?_ | refine W.a8 ?_))
  rw [w64i (n := n + 1000000) (by omega) (by omega)]
  refine W.bs implMk_run ?_
  ((try simp only [n1, n2, n3, n4, n5, n6] at d); (with_reducible repeat first | refine W.a1 d ?_ | refine W.a2 ?_ | refine W.a3 ?_ | refine W.bo ?_ | refine W.a5 d fun hw d lw kw => ?_ | refine W.a6 d ?_ | refine W.a7 ?_ | refine W.a8 ?_))
  refine W.ret ⟨a, aa, rfl, ?_⟩
  simpa using (d.takeD 1).takeR 3
 have c1 : ¬ k = 1 := by simpa using c
 refine W.ite (fun c => ?_) (fun c => ?_)
 ·have c : k = 2 := by simpa using c
  rw [show pt fr (f + 1) (w, ats) (.mk k n s l) = ((w, (addA ats s).1), mkW 1 (addA ats s).2, decide ((addA ats s).2 ≥ 0)) from by rw [pt, if_neg c1, if_pos c]]
  have hl := addA_len ats s
  obtain ⟨a2, h2, e2, o2, kk, f2⟩ := implAdd_run (base := base) h1 ats aa s hal hsz (d.rs (i := 2) rfl : Own base 9 h1 aa (stV ats)).sl (d.rlt (i := 2) rfl) d.ge
  ((try simp only [n1, n2, n3, n4, n5, n6] at d); (with_reducible repeat first | refine W.a1 d ?_ | refine W.a2 ?_ | refine W.a3 ?_ | refine W.bo ?_ | refine W.a5 d fun hw d lw kw => ?_ | refine W.a6 d ?_ | refine W.a7 ?_ | refine W.a8 ?_))
  refine W.bs e2 ?_
  have d := d.call kk (blk a2) (fun y => Own base 9 y a2 (stV (addA ats s).1)) o2 (fun U y y' ky hs x => x.keep ky hs) (fun b hb => ⟨f2 b hb, (o2.lt hb).2⟩)
  ((try simp only [n1, n2, n3, n4, n5, n6] at d); (with_reducible repeat first | refine W.a1 d ?_ | refine W.a2 ?_ | refine W.a3 ?_ | refine W.bo ?_ | refine W.a5 d fun hw d lw kw => ?_ | refine W.a6 d ?_ | refine W.a7 ?_ | refine W.a8 ?_))
  have d := d.pk5
  refine W.joinP (fun q => q.1 = [some (.int .i64 (addA ats s).2)] ∧ Hs base V h0 q.2 [(pb, 166, ptV a w.length fr a2 (addA ats s).1.length (bad || decide ((addA ats s).2 < 0)))] [rTR P (f + 1) (.mk k n s l) (termV k n s al l.length), rW base a w, rSt base a2 (addA ats s).1]) ?_ ?_
  ·((try simp only [n1, n2, n3, n4, n5, n6] at d); (with_reducible repeat first | refine W.a1 d ?_ | refine W.a2 ?_ | refine W.a3 ?_ | refine W.bo ?_ | refine W.a5 d fun hw d lw kw => ?_ | refine W.a6 d ?_ | refine W.a7 ?_ | refine W.a8 ?_))
   refine W.ite (fun cb => ?_) (fun cb => ?_)
   ·have cb : bad = true := cb
    ((try simp only [n1, n2, n3, n4, n5, n6] at d); (with_reducible repeat first | refine W.a1 d ?_ | refine W.a2 ?_ | refine W.a3 ?_ | refine W.bo ?_ | refine W.a5 d fun hw d lw kw => ?_ | refine W.a6 d ?_ | refine W.a7 ?_ | refine W.a8 ?_))
    refine W.inl ⟨rfl, ?_⟩
    have e : (bad || decide ((addA ats s).2 < 0)) = true := by rw [cb]; rfl
    rw [e]
    exact d.takeD 1
   ·have cb : bad = false := by simpa using cb
    ((try simp only [n1, n2, n3, n4, n5, n6] at d); (with_reducible repeat first | refine W.a1 d ?_ | refine W.a2 ?_ | refine W.a3 ?_ | refine W.bo ?_ | refine W.a5 d fun hw d lw kw => ?_ | refine W.a6 d ?_ | refine W.a7 ?_ | refine W.a8 ?_))
    refine W.inl ⟨rfl, ?_⟩
    rw [cb, Bool.false_or]
    exact d.takeD 1
  rintro ⟨q1, q2⟩ ⟨y1, d⟩
  simp only at y1 d
  subst y1
  ((try simp only [n1, n2, n3, n4, n5, n6] at d); (with_reducible repeat first | refine W.a1 d ?_ | refine W.a2 ?_ | refine W.a3 ?_ | refine W.bo ?_ | refine W.a5 d fun hw d lw kw => ?_ | refine W.a6 d ?_ | refine W.a7 ?_ | refine W.a8 ?_))
  refine W.bs implMk_run ?_
  ((try simp only [n1, n2, n3, n4, n5, n6] at d); (with_reducible repeat first | refine W.a1 d ?_ | refine W.a2 ?_ | refine W.a3 ?_ | refine W.bo ?_ | refine W.a5 d fun hw d lw kw => ?_ | refine W.a6 d ?_ | refine W.a7 ?_ | refine W.a8 ?_))
  refine W.ret ⟨a, a2, rfl, ?_⟩
  rw [neg_dec] at d
  exact d
 have c2 : ¬ k = 2 := by simpa using c
 refine W.ite (fun c => ?_) (fun c => ?_)
 ·have c : k = 3 := by simpa using c
  rw [show pt fr (f + 1) (w, ats) (.mk k n s l) = ((w, ats), mkW 2 n, true) from by rw [pt, if_neg c1, if_neg c2, if_pos c]]
  ((try simp only [n1, n2, n3, n4, n5, n6] at d); (with_reducible repeat first | refine W.a1 d ?_ | refine W.a2 ?_ | refine W.a3 ?_ | refine W.bo ?_ | refine W.a5 d fun hw d lw kw => ?_ | refine W.a6 d ?_ | refine W.a7 ?_ | refine W.a8 ?_))
  refine W.bs implMk_run ?_
  ((try simp only [n1, n2, n3, n4, n5, n6] at d); (with_reducible repeat first | refine W.a1 d ?_ | refine W.a2 ?_ | refine W.a3 ?_ | refine W.bo ?_ | refine W.a5 d fun hw d lw kw => ?_ | refine W.a6 d ?_ | refine W.a7 ?_ | refine W.a8 ?_))
  refine W.ret ⟨a, aa, rfl, ?_⟩
  simpa using (d.takeD 1).takeR 3
 have c3 : ¬ k = 3 := by simpa using c
 refine W.ite (fun c => ?_) (fun c => ?_)
 ·have c : k = 6 := by simpa using c
  have c4 : k ≠ 4 := by omega
  have c5 : k ≠ 5 := by omega
  have hs40 := k6 c
  have hbl := bsL_len s
  rw [show pt fr (f + 1) (w, ats) (.mk k n s l) = ((w ++ (s.size : Int) :: bsL s, ats), mkW 6 (fr + w.length), true) from by rw [pt, if_neg c1, if_neg c2, if_neg c3, if_pos c]]
  rw [show ndN k s l.length = 1 + s.size from by unfold ndN; rw [if_neg c4, if_neg c5, if_pos c]] at hn
  ((try simp only [n1, n2, n3, n4, n5, n6] at d); (with_reducible repeat first | refine W.a1 d ?_ | refine W.a2 ?_ | refine W.a3 ?_ | refine W.bo ?_ | refine W.a5 d fun hw d lw kw => ?_ | refine W.a6 d ?_ | refine W.a7 ?_ | refine W.a8 ?_))
  rw [w64i (n := 1 + (s.size : Int)) (by omega) (by omega), show 1 + (s.size : Int) = ((1 + s.size : Nat) : Int) from by omega]
  have d := d.takeR 3
  refine W.wb (room_run (base := base) (n := 1 + s.size) (by omega) d) ?_
  rintro ⟨u, h2⟩ ⟨a1, y1, d⟩
  simp only at y1 d
  subst y1
  have hlen : (w ++ List.replicate (1 + s.size) 0).length = w.length + 1 + s.size := by simp; omega
  rw [hlen] at d
  ((try simp only [n1, n2, n3, n4, n5, n6] at d); (with_reducible repeat first | refine W.a1 d ?_ | refine W.a2 ?_ | refine W.a3 ?_ | refine W.bo ?_ | refine W.a5 d fun hw d lw kw => ?_ | refine W.a6 d ?_ | refine W.a7 ?_ | refine W.a8 ?_))
  obtain ⟨ad, h3, ea, ew, d, _⟩ := d.setW (i := 1) (j := w.length) (v := (s.size : Int)) rfl (by omega)
  subst ea
  refine W.bs rfl (W.bs (by rw [Int.toNat_natCast, Nat.mul_one]; exact ew) ?_)
  rw [set_first hbl] at d
  refine W.wb (putBin_loop (base := base) hs40 (by omega) s.size 0 h3 (some ad) (by omega) d) ?_
  rintro ⟨o1, o2, h4⟩ ⟨y1, y2, d⟩
  simp only at y1 y2 d
  subst y1; subst y2
  refine W.ifT rfl ?_
  ((try simp only [n1, n2, n3, n4, n5, n6] at d); (with_reducible repeat first | refine W.a1 d ?_ | refine W.a2 ?_ | refine W.a3 ?_ | refine W.bo ?_ | refine W.a5 d fun hw d lw kw => ?_ | refine W.a6 d ?_ | refine W.a7 ?_ | refine W.a8 ?_))
  rw [w64i (n := fr + (w.length : Int)) (by omega) (by omega)]
  refine W.bs implMk_run ?_
  ((try simp only [n1, n2, n3, n4, n5, n6] at d); (with_reducible repeat first | refine W.a1 d ?_ | refine W.a2 ?_ | refine W.a3 ?_ | refine W.bo ?_ | refine W.a5 d fun hw d lw kw => ?_ | refine W.a6 d ?_ | refine W.a7 ?_ | refine W.a8 ?_))
  refine W.ret ⟨some ad, aa, rfl, ?_⟩
  have e : (w ++ (s.size : Int) :: bsL s).length = w.length + 1 + s.size := by simp [hbl]; omega
  simp only [Bool.not_true, Bool.or_false]
  rw [e]
  exact d.takeD 1
 have c6 : ¬ k = 6 := by simpa using c
 refine W.ite (fun c => ?_) (fun c => ?_)
 ·have c : k = 4 := by simpa using c
  have hl8 := k4 c
  rw [show pt fr (f + 1) (w, ats) (.mk k n s l) = ((ptT (pt fr f) l (w.length + 1) (w ++ (l.length : Int) :: List.replicate l.length 0, ats)).1, mkW 4 (fr + w.length), (ptT (pt fr f) l (w.length + 1) (w ++ (l.length : Int) :: List.replicate l.length 0, ats)).2) from by rw [pt, if_neg c1, if_neg c2, if_neg c3, if_neg c6, if_pos c]]
  rw [show ndN k s l.length = 1 + l.length from by unfold ndN; rw [if_pos c]] at hn
  ((try simp only [n1, n2, n3, n4, n5, n6] at d); (with_reducible repeat first | refine W.a1 d ?_ | refine W.a2 ?_ | refine W.a3 ?_ | refine W.bo ?_ | refine W.a5 d fun hw d lw kw => ?_ | refine W.a6 d ?_ | refine W.a7 ?_ | refine W.a8 ?_))
  rw [w64i (n := 1 + (l.length : Int)) (by omega) (by omega), show 1 + (l.length : Int) = ((1 + l.length : Nat) : Int) from by omega]
  have d := d.sw4
  refine W.wb (room_run (base := base) (n := 1 + l.length) (by omega) d) ?_
  rintro ⟨u, h2⟩ ⟨a1, y1, d⟩
  simp only at y1 d
  subst y1
  have hlen : (w ++ List.replicate (1 + l.length) 0).length = w.length + 1 + l.length := by simp; omega
  rw [hlen] at d
  ((try simp only [n1, n2, n3, n4, n5, n6] at d); (with_reducible repeat first | refine W.a1 d ?_ | refine W.a2 ?_ | refine W.a3 ?_ | refine W.bo ?_ | refine W.a5 d fun hw d lw kw => ?_ | refine W.a6 d ?_ | refine W.a7 ?_ | refine W.a8 ?_))
  obtain ⟨ad, h3, ea, ew, d, _⟩ := d.setW (i := 1) (j := w.length) (v := (l.length : Int)) rfl (by omega)
  subst ea
  refine W.bs rfl (W.bs (by rw [Int.toNat_natCast, Nat.mul_one]; exact ew) ?_)
  have hlen2 : (w ++ (l.length : Int) :: List.replicate l.length 0).length = w.length + 1 + l.length := by simp; omega
  rw [set_first', ← hlen2] at d
  ((try simp only [n1, n2, n3, n4, n5, n6] at d); (with_reducible repeat first | refine W.a1 d ?_ | refine W.a2 ?_ | refine W.a3 ?_ | refine W.bo ?_ | refine W.a5 d fun hw d lw kw => ?_ | refine W.a6 d ?_ | refine W.a7 ?_ | refine W.a8 ?_))
  have d1 := Hs.part (D1 := [_]) (R1 := [_, _, _]) d
  refine W.wb (putTup_loop (base := base) (at_ := w.length) hfr hl20 hch ih l.length 0 h3 _ ats (some ad) aa bad (by omega) (by omega) (by rw [List.drop_zero, hlen2]; omega) hal d1) ?_
  rintro ⟨o1, o2, h4⟩ ⟨a4, aa4, y1, y2, d2⟩
  simp only at y1 y2 d2
  subst y1; subst y2
  have d := (Hs.back (D1 := [_]) (R1 := [_, _, _]) d d2 (imP rfl rfl)).sw4
  rw [List.drop_zero, Nat.add_zero] at d
  have d := (d.takeD 1).takeR 3
  clear d1 d2
  refine W.ifT rfl ?_
  ((try simp only [n1, n2, n3, n4, n5, n6] at d); (with_reducible repeat first | refine W.a1 d ?_ | refine W.a2 ?_ | refine W.a3 ?_ | refine W.bo ?_ | refine W.a5 d fun hw d lw kw => ?_ | refine W.a6 d ?_ | refine W.a7 ?_ | refine W.a8 ?_))
  rw [w64i (n := fr + (w.length : Int)) (by omega) (by omega)]
  refine W.bs implMk_run ?_
  ((try simp only [n1, n2, n3, n4, n5, n6] at d); (with_reducible repeat first | refine W.a1 d ?_ | refine W.a2 ?_ | refine W.a3 ?_ | refine W.bo ?_ | refine W.a5 d fun hw d lw kw => ?_ | refine W.a6 d ?_ | refine W.a7 ?_ | refine W.a8 ?_))
  exact W.ret ⟨a4, aa4, rfl, d⟩
 have c4 : ¬ k = 4 := by simpa using c
 have c5 : k = 5 := by omega
 rw [show ndN k s l.length = 2 * l.length from by unfold ndN; rw [if_neg c4, if_pos c5]] at hn
 ((try simp only [n1, n2, n3, n4, n5, n6] at d); (with_reducible repeat first | refine W.a1 d ?_ | refine W.a2 ?_ | refine W.a3 ?_ | refine W.bo ?_ | refine W.a5 d fun hw d lw kw => ?_ | refine W.a6 d ?_ | refine W.a7 ?_ | refine W.a8 ?_))
 have d := d.sw4
 have d1 := Hs.part (D1 := [_]) (R1 := [_, _, _]) d
 refine W.wb (putList_run (base := base) hfr hl20 hch ih (by omega) hal d1) ?_
 rintro ⟨u, h4⟩ ⟨a4, aa4, y1, d2⟩
 simp only at y1 d2
 subst y1
 have d := (Hs.back (D1 := [_]) (R1 := [_, _, _]) d d2 (imP rfl rfl)).sw4
 have d := (d.takeD 1).takeR 3
 clear d1 d2
 rw [pt_list (by decide)] at d ⊢
 rw [pt_list ⟨c1, c2, c3, c6, c4⟩]
 ((try simp only [n1, n2, n3, n4, n5, n6] at d); (with_reducible repeat first | refine W.a1 d ?_ | refine W.a2 ?_ | refine W.a3 ?_ | refine W.bo ?_ | refine W.a5 d fun hw d lw kw => ?_ | refine W.a6 d ?_ | refine W.a7 ?_ | refine W.a8 ?_))
 exact W.ret ⟨a4, aa4, rfl, d⟩
theorem put_run {base : Nat} : ∀ f, PutR base f
 | 0 => fun pb fr P t cs w ats a aa bad V h0 h hw _ _ _ _ => by obtain ⟨d, x, _, hx⟩ := hw; rw [lk] at hx; omega
 | f + 1 => put_succ (put_run f)
end Go.Proofs.Ytjmkbglnjklbcaa.Am
set_option linter.unusedSimpArgs false
set_option linter.unusedVariables false
namespace Go.Proofs.Ytjmkbglnjklbcaa.Am
open Go Go.RowKit
abbrev wsD (wb sb : Nat) (a : Option Addr) (n : Nat) (aa : Option Addr) (m : Nat) : Ds := [(wb, 32, [.slice a n n]), (sb, 25, [.slice aa m m])]
def SPutR (base : Nat) (f : Nat) : Prop := ∀ (wb sb : Nat) (P : Fp) (t : Tm) (cs : List Value) (w : List Int) (ats : List ByteArray) (a aa : Option Addr) (V : Fp) (h0 h : AH), Wf f t → w.length + needT f t ≤ 100000 → ats.length ≤ 1048576 →
 Hs base V h0 h (wsD wb sb a w.length aa ats.length) [rTR P f t cs, rW base a w, rSt base aa ats] →
 Wp (run (Et base) 72 [.pointer (at0 wb), .pointer (at0 sb), .agg cs.toArray] h) fun o => ∃ a' aa', o.1 = .tuple #[.int .i64 (pt 0 f (w, ats) t).2.1, .bool (pt 0 f (w, ats) t).2.2] ∧ Hs base V h0 o.2 (wsD wb sb a' (pt 0 f (w, ats) t).1.1.length aa' (pt 0 f (w, ats) t).1.2.length) [rTR P f t cs, rW base a' (pt 0 f (w, ats) t).1.1, rSt base aa' (pt 0 f (w, ats) t).1.2]
theorem Hs.app1W {base i nb n : Nat} {V : Fp} {h0 h : AH} {D : Ds} {R : List Rs} {a : Option Addr} {l : List Int} {v : Int} (d : Hs base V h0 h ((nb, 3, [.int .i64 v]) :: D) R) (ei : R[i]? = some (rW base a l)) (hn : l.length = n) (hl : n + 1 ≤ 1000000) :
  ∃ a' h', Am.app base h 3 1 8 a n (rawAt h (at0 nb) (1 * 1)) 1 = some (.slice a' (n + 1) (n + 1), h') ∧ Hs base V h0 h' ((nb, 3, [.int .i64 v]) :: D) (R.set i (rW base a' (l ++ [v]))) := by
 obtain ⟨a5, h5, e5, d, q5, k5, _⟩ := d.app1O (w := 1) (i := i) (n := n) (bytes := 8) ei (fun b hb => hb) (.head _) rfl (by decide) (by simp [hn]) rfl (by omega) (by omega)
 refine ⟨a5, h5, e5, ?_⟩
 have e : iv .i64 l ++ [Value.int .i64 v] = iv .i64 (l ++ [v]) := by simp [iv]
 rw [e] at d
 exact d
theorem sputBin_loop {base wb sb tb : Nat} {x : Rs} {ats : List ByteArray} {aa : Option Addr} {V : Fp} {h0 : AH} {k n : Int} {s : ByteArray} {ta : Option Addr} {m : Nat} {w0 : List Int} (hs : s.size ≤ 40) (hw : w0.length ≤ 100000) : ∀ (r i : Nat) (h : AH) (a : Option Addr), i + r = s.size → Hs base V h0 h (wsD wb sb a (w0 ++ (s.size : Int) :: (bsL s).take i).length aa ats.length ++ [(tb, 39, termV k n s ta m)]) [x, rW base a (w0 ++ (s.size : Int) :: (bsL s).take i), rSt base aa ats] →
  Wp (loopL (B72_0 base) [some (.pointer (at0 wb)), some (.pointer (at0 tb)), some (.int .i64 (w0.length : Int)), some (.int .i64 (i : Int))] h) fun o => ∃ a', o.1 = 3 ∧ o.2.1 = [some (.int .i64 (w0.length : Int))] ∧ Hs base V h0 o.2.2 (wsD wb sb a' (w0 ++ (s.size : Int) :: bsL s).length aa ats.length) [x, rW base a' (w0 ++ (s.size : Int) :: bsL s), rSt base aa ats] := by
 have hbl := bsL_len s
 intro r
 induction r with
 | zero =>
  intro i h a hi d
  suffices w1 : Wp (B72_0 base [some (.pointer (at0 wb)), some (.pointer (at0 tb)), some (.int .i64 (w0.length : Int)), some (.int .i64 (i : Int))] h) fun o => o = (3, [some (.int .i64 (w0.length : Int))], h) by
   obtain ⟨o, e, rfl⟩ := w1
   refine ⟨_, loop_off (by decide) e, a, rfl, rfl, ?_⟩
   rw [List.take_of_length_le (by omega)] at d
   exact d.takeD 2
  rw [B72_0_eq]
  ((try simp only [n1, n2, n3, n4, n5, n6] at d); (with_reducible repeat first | refine W.a1 d ?_ | refine W.a2 ?_ | refine W.a3 ?_ | refine W.bo ?_ | refine W.a5 d fun hw d lw kw => ?_ | refine W.a6 d ?_ | refine W.a7 ?_ | refine W.a8 ?_))
  exact W.ifF (by simp; omega) (W.ret rfl)
 | succ r ihr =>
  intro i h a hi d
  have hlt : i < (bsL s).length := by omega
  suffices w1 : Wp (B72_0 base [some (.pointer (at0 wb)), some (.pointer (at0 tb)), some (.int .i64 (w0.length : Int)), some (.int .i64 (i : Int))] h) fun o => ∃ a', o.1 = 0 ∧ o.2.1 = [some (.pointer (at0 wb)), some (.pointer (at0 tb)), some (.int .i64 (w0.length : Int)), some (.int .i64 ((i + 1 : Nat) : Int))] ∧ Hs base V h0 o.2.2 (wsD wb sb a' (w0 ++ (s.size : Int) :: (bsL s).take (i + 1)).length aa ats.length ++ [(tb, 39, termV k n s ta m)]) [x, rW base a' (w0 ++ (s.size : Int) :: (bsL s).take (i + 1)), rSt base aa ats] by
   obtain ⟨⟨o1, o2, h'⟩, e, a', y1, y2, d'⟩ := w1
   simp only at y1 y2 d'
   subst y1; subst y2
   obtain ⟨o, eo, q⟩ := ihr (i + 1) h' a' (by omega) d'
   exact ⟨o, loop_on e eo, q⟩
  have hv : IntKind.wrap .i64 ((s.data.toList.getD (Int.toNat (i : Int)) 0).toNat : Int) = (bsL s)[i] := by
   have hd : i < s.data.toList.length := by rw [Array.length_toList]; exact Nat.lt_of_lt_of_le hlt (by rw [hbl]; exact Nat.le_refl _)
   have e1 : (bsL s)[i] = ((s.data.toList[i]).toNat : Int) := List.getElem_map _
   rw [Int.toNat_natCast, List.getD_eq_getElem?_getD, List.getElem?_eq_getElem hd, Option.getD_some, e1]
   have := (s.data.toList[i]).toNat_lt
   exact w64i (by omega) (by omega)
  have et : w0 ++ (s.size : Int) :: (bsL s).take (i + 1) = (w0 ++ (s.size : Int) :: (bsL s).take i) ++ [(bsL s)[i]] := by
   rw [List.take_succ_eq_append_getElem hlt, List.append_assoc]
   rfl
  have hlen : (w0 ++ (s.size : Int) :: (bsL s).take i).length ≤ 100100 := by
   simp; omega
  rw [et]
  rw [B72_0_eq]
  generalize hg : w0 ++ (s.size : Int) :: (bsL s).take i = g at d hlen ⊢
  ((try simp only [n1, n2, n3, n4, n5, n6] at d); (with_reducible repeat first | refine W.a1 d ?_ | refine W.a2 ?_ | refine W.a3 ?_ | refine W.bo ?_ | refine W.a5 d fun hw d lw kw => ?_ | refine W.a6 d ?_ | refine W.a7 ?_ | refine W.a8 ?_))
  refine W.ifT (decide_eq_true (by omega)) ?_
  ((try simp only [n1, n2, n3, n4, n5, n6] at d); (with_reducible repeat first | refine W.a1 d ?_ | refine W.a2 ?_ | refine W.a3 ?_ | refine W.bo ?_ | refine W.a5 d fun hw d lw kw => ?_ | refine W.a6 d ?_ | refine W.a7 ?_ | refine W.a8 ?_); (refine W.nD d fun h2 d _ kh2 => ?_); (with_reducible repeat first | refine W.a1 d ?_ | refine W.a2 ?_ | refine W.a3 ?_ | refine W.bo ?_ | refine W.a5 d fun hw d lw kw => ?_ | refine W.a6 d ?_ | refine W.a7 ?_ | refine W.a8 ?_))
  rw [hv] at d
  obtain ⟨a5, h5, e5, d⟩ := d.app1W (i := 1) rfl rfl (by omega)
  refine W.bs e5 ?_
  ((try simp only [n1, n2, n3, n4, n5, n6] at d); (with_reducible repeat first | refine W.a1 d ?_ | refine W.a2 ?_ | refine W.a3 ?_ | refine W.bo ?_ | refine W.a5 d fun hw d lw kw => ?_ | refine W.a6 d ?_ | refine W.a7 ?_ | refine W.a8 ?_))
  rw [w64i (n := (i : Int) + 1) (by omega) (by omega)]
  refine W.ret ⟨a5, rfl, rfl, ?_⟩
  rw [show (g ++ [(bsL s)[i]]).length = g.length + 1 from by simp]
  exact d.tl
theorem sputTup_loop {base wb sb tb f at_ : Nat} {P : Fp} {k n : Int} {s : ByteArray} {l : List Tm} {al : Option Addr} {V : Fp} {h0 : AH} (hl : l.length ≤ 20) (hw : ∀ t ∈ l, Wf f t) (ih : SPutR base f) : ∀ (r i : Nat) (h : AH) (w : List Int) (ats : List ByteArray) (a aa : Option Addr) (ok : Bool), i + r = l.length → at_ + 1 + l.length ≤ w.length → w.length + sumL (needT f) (l.drop i) ≤ 100000 → ats.length ≤ 1048576 → Hs base V h0 h (wsD wb sb a w.length aa ats.length ++ [(tb, 39, termV k n s al l.length)]) [rTSR P f l al, rW base a w, rSt base aa ats] →
  Wp (loopL (B72_1 base) [some (.pointer (at0 wb)), some (.pointer (at0 sb)), some (.pointer (at0 tb)), some (.int .i64 (at_ : Int)), some (.bool ok), some (.int .i64 (i : Int))] h) fun o => ∃ a' aa', o.1 = 5 ∧ o.2.1 = [some (.int .i64 (at_ : Int)), some (.bool (ok && (ptT (pt 0 f) (l.drop i) (at_ + 1 + i) (w, ats)).2))] ∧ Hs base V h0 o.2.2 (wsD wb sb a' (ptT (pt 0 f) (l.drop i) (at_ + 1 + i) (w, ats)).1.1.length aa' (ptT (pt 0 f) (l.drop i) (at_ + 1 + i) (w, ats)).1.2.length) [rTSR P f l al, rW base a' (ptT (pt 0 f) (l.drop i) (at_ + 1 + i) (w, ats)).1.1, rSt base aa' (ptT (pt 0 f) (l.drop i) (at_ + 1 + i) (w, ats)).1.2] := by
 intro r
 induction r with
 | zero =>
  intro i h w ats a aa ok hi hat hn hal d
  suffices w1 : Wp (B72_1 base [some (.pointer (at0 wb)), some (.pointer (at0 sb)), some (.pointer (at0 tb)), some (.int .i64 (at_ : Int)), some (.bool ok), some (.int .i64 (i : Int))] h) fun o => o = (5, [some (.int .i64 (at_ : Int)), some (.bool ok)], h) by
   obtain ⟨o, e, rfl⟩ := w1
   refine ⟨_, loop_off (by decide) e, a, aa, rfl, ?_, ?_⟩
   ·rw [List.drop_of_length_le (by omega), ptT, Bool.and_true]
   ·rw [List.drop_of_length_le (by omega), ptT]
    exact d.takeD 2
  rw [B72_1_eq]
  ((try simp only [n1, n2, n3, n4, n5, n6] at d); (with_reducible repeat first | refine W.a1 d ?_ | refine W.a2 ?_ | refine W.a3 ?_ | refine W.bo ?_ | refine W.a5 d fun hw d lw kw => ?_ | refine W.a6 d ?_ | refine W.a7 ?_ | refine W.a8 ?_))
  exact W.ifF (by simp; omega) (W.ret rfl)
 | succ r ihr =>
  intro i h w ats a aa ok hi hat hn hal d
  have hlt : i < l.length := by omega
  have hwi := hw l[i] (List.getElem_mem _)
  have ed : l.drop i = l[i] :: l.drop (i + 1) := List.drop_eq_getElem_cons hlt
  have hn2 := hn
  rw [ed, sumL] at hn2
  obtain ⟨pk1, pk2⟩ := pt_ok (fr := 0) f l[i] hwi (w, ats)
  simp only at pk1 pk2
  generalize hq : pt 0 f (w, ats) l[i] = q at pk1 pk2
  suffices w1 : Wp (B72_1 base [some (.pointer (at0 wb)), some (.pointer (at0 sb)), some (.pointer (at0 tb)), some (.int .i64 (at_ : Int)), some (.bool ok), some (.int .i64 (i : Int))] h) fun o => ∃ a' aa', o.1 = 0 ∧ o.2.1 = [some (.pointer (at0 wb)), some (.pointer (at0 sb)), some (.pointer (at0 tb)), some (.int .i64 (at_ : Int)), some (.bool (ok && q.2.2)), some (.int .i64 ((i + 1 : Nat) : Int))] ∧ Hs base V h0 o.2.2 (wsD wb sb a' (q.1.1.set (at_ + 1 + i) q.2.1).length aa' q.1.2.length ++ [(tb, 39, termV k n s al l.length)]) [rTSR P f l al, rW base a' (q.1.1.set (at_ + 1 + i) q.2.1), rSt base aa' q.1.2] by
   obtain ⟨⟨o1, o2, h'⟩, e, a', aa', y1, y2, d'⟩ := w1
   simp only at y1 y2 d'
   subst y1; subst y2
   obtain ⟨o, eo, a2, aa2, z1, z2, z3⟩ := ihr (i + 1) h' _ _ a' aa' _ (by omega) (by rw [List.length_set]; omega) (by rw [List.length_set]; omega) (by omega) d'
   refine ⟨o, loop_on e eo, a2, aa2, z1, ?_, ?_⟩
   ·rw [z2, ed, ptT, hq]
    simp only
    rw [← Bool.and_assoc, show at_ + 1 + i + 1 = at_ + 1 + (i + 1) from by omega]
   ·rw [ed, ptT, hq]
    simp only
    rw [show at_ + 1 + i + 1 = at_ + 1 + (i + 1) from by omega]
    exact z3
  rw [B72_1_eq]
  ((try simp only [n1, n2, n3, n4, n5, n6] at d); (with_reducible repeat first | refine W.a1 d ?_ | refine W.a2 ?_ | refine W.a3 ?_ | refine W.bo ?_ | refine W.a5 d fun hw d lw kw => ?_ | refine W.a6 d ?_ | refine W.a7 ?_ | refine W.a8 ?_))
  refine W.ifT (decide_eq_true (by omega)) ?_
  cases f with
  | zero => obtain ⟨d', x, _, hx⟩ := hwi; rw [lk] at hx; omega
  | succ f =>
   refine W.joinP (fun z => z.1 = [some (.pointer (at0 wb)), some (.pointer (at0 sb)), some (.pointer (at0 tb)), some (.int .i64 (at_ : Int)), some (.bool (ok && q.2.2)), some (.int .i64 (i : Int))] ∧ ∃ a' aa', Hs base V h0 z.2 (wsD wb sb a' (q.1.1.set (at_ + 1 + i) q.2.1).length aa' q.1.2.length ++ [(tb, 39, termV k n s al l.length)]) [rTSR P (f + 1) l al, rW base a' (q.1.1.set (at_ + 1 + i) q.2.1), rSt base aa' q.1.2]) ?_ ?_
   ·((try simp only [n1, n2, n3, n4, n5, n6] at d); (with_reducible repeat first | refine W.a1 d ?_ | refine W.a2 ?_ | refine W.a3 ?_ | refine W.bo ?_ | refine W.a5 d fun hw d lw kw => ?_ | refine W.a6 d ?_ | refine W.a7 ?_ | refine W.a8 ?_))
    refine W.t4 (d.rs (i := 0) rfl : TsR h P (f + 1) l al) hlt fun k2 n2 s2 a2 l2 el hm _ hsz hln => ?_
    rw [← el] at hm
    have d := d.also (i := 0) rfl rfl (fun y => TmR y P (f + 1) l[i] (termV k2 n2 s2 a2 l2.length)) hm (fun U y y' ky hs x => TmR.keep ky hs _ _ _ x)
    ((try simp only [n1, n2, n3, n4, n5, n6] at d); (with_reducible repeat first | refine W.a1 d ?_ | refine W.a2 ?_ | refine W.a3 ?_ | refine W.bo ?_ | refine W.a5 d fun hw d lw kw => ?_ | refine W.a6 d ?_ | refine W.a7 ?_ | refine W.a8 ?_))
    have d := d.sw4
    have d1 := Hs.part (D1 := [_, _]) (R1 := [_, _, _]) d
    refine W.wb (ih wb sb P l[i] _ w ats a aa _ _ _ hwi (by omega) hal d1) ?_
    rintro ⟨u, h4⟩ ⟨a', aa', y1, d2⟩
    simp only at y1 d2
    subst y1
    have d := (Hs.back (D1 := [_, _]) (R1 := [_, _, _]) d d2 (imP rfl rfl)).sw4
    rw [hq] at d ⊢
    have d := d.takeR 3
    clear d1 d2
    ((try simp only [n1, n2, n3, n4, n5, n6] at d); (with_reducible repeat first | refine W.a1 d ?_ | refine W.a2 ?_ | refine W.a3 ?_ | refine W.bo ?_ | refine W.a5 d fun hw d lw kw => ?_ | refine W.a6 d ?_ | refine W.a7 ?_ | refine W.a8 ?_))
    rw [w64i (n := (at_ : Int) + 1) (by omega) (by omega), w64i (n := (at_ : Int) + 1 + (i : Int)) (by omega) (by omega)]
    refine W.ifT ⟨by omega, by omega⟩ ?_
    obtain ⟨ad, h5, ea, ew, d, _⟩ := d.setW (i := 1) (j := at_ + 1 + i) (v := q.2.1) rfl (by omega)
    subst ea
    refine W.bs rfl (W.bs (by rw [show Int.toNat ((at_ : Int) + 1 + (i : Int)) * 1 = at_ + 1 + i from by omega]; exact ew) ?_)
    refine W.ite (fun co => ?_) (fun co => ?_)
    ·have co : ok = true := co
     refine W.inl ⟨by rw [co, Bool.true_and], some ad, aa', ?_⟩
     rw [List.length_set]
     exact d
    ·have co : ok = false := by simpa using co
     refine W.inl ⟨by rw [co, Bool.false_and], some ad, aa', ?_⟩
     rw [List.length_set]
     exact d
   ·rintro ⟨z1, z2⟩ ⟨y1, a', aa', d⟩
    simp only at y1 d
    subst y1
    ((try simp only [n1, n2, n3, n4, n5, n6] at d); (with_reducible repeat first | refine W.a1 d ?_ | refine W.a2 ?_ | refine W.a3 ?_ | refine W.bo ?_ | refine W.a5 d fun hw d lw kw => ?_ | refine W.a6 d ?_ | refine W.a7 ?_ | refine W.a8 ?_))
    dsimp only
    rw [w64i (n := (i : Int) + 1) (by omega) (by omega)]
    exact W.ret ⟨a', aa', rfl, rfl, d⟩
end Go.Proofs.Ytjmkbglnjklbcaa.Am
set_option linter.unusedSimpArgs false
set_option linter.unusedVariables false
namespace Go.Proofs.Ytjmkbglnjklbcaa.Am
open Go Go.RowKit
theorem sputList_loop {base wb sb tb f at_ : Nat} {P : Fp} {k n : Int} {s : ByteArray} {l : List Tm} {al : Option Addr} {V : Fp} {h0 : AH} (hl : l.length ≤ 20) (hw : ∀ t ∈ l, Wf f t) (ih : SPutR base f) : ∀ (r i : Nat) (h : AH) (w : List Int) (ats : List ByteArray) (a aa : Option Addr) (ok : Bool), i + r = l.length → at_ + 2 * l.length ≤ w.length → w.length + sumL (needT f) (l.drop i) ≤ 100000 → ats.length ≤ 1048576 → Hs base V h0 h (wsD wb sb a w.length aa ats.length ++ [(tb, 39, termV k n s al l.length)]) [rTSR P f l al, rW base a w, rSt base aa ats] →
  Wp (loopL (B134_0 base) [some (.pointer (at0 wb)), some (.pointer (at0 sb)), some (.pointer (at0 tb)), some (.int .i64 (l.length : Int)), some (.int .i64 (at_ : Int)), some (.bool ok), some (.int .i64 (i : Int))] h) fun o => ∃ a' aa', o.1 = 2 ∧ o.2.1 = [some (.pointer (at0 wb)), some (.int .i64 (l.length : Int)), some (.int .i64 (at_ : Int)), some (.bool (ok && (ptL (pt 0 f) 0 (l.drop i) (at_ + 2 * i) (w, ats)).2))] ∧ Hs base V h0 o.2.2 (wsD wb sb a' (ptL (pt 0 f) 0 (l.drop i) (at_ + 2 * i) (w, ats)).1.1.length aa' (ptL (pt 0 f) 0 (l.drop i) (at_ + 2 * i) (w, ats)).1.2.length) [rTSR P f l al, rW base a' (ptL (pt 0 f) 0 (l.drop i) (at_ + 2 * i) (w, ats)).1.1, rSt base aa' (ptL (pt 0 f) 0 (l.drop i) (at_ + 2 * i) (w, ats)).1.2] := by
 intro r
 induction r with
 | zero =>
  intro i h w ats a aa ok hi hat hn hal d
  suffices w1 : Wp (B134_0 base [some (.pointer (at0 wb)), some (.pointer (at0 sb)), some (.pointer (at0 tb)), some (.int .i64 (l.length : Int)), some (.int .i64 (at_ : Int)), some (.bool ok), some (.int .i64 (i : Int))] h) fun o => o = (2, [some (.pointer (at0 wb)), some (.int .i64 (l.length : Int)), some (.int .i64 (at_ : Int)), some (.bool ok)], h) by
   obtain ⟨o, e, rfl⟩ := w1
   refine ⟨_, loop_off (by decide) e, a, aa, rfl, ?_, ?_⟩
   ·rw [List.drop_of_length_le (by omega), ptL, Bool.and_true]
   ·rw [List.drop_of_length_le (by omega), ptL]
    exact d.takeD 2
  rw [B134_0_eq]
  ((try simp only [n1, n2, n3, n4, n5, n6] at d); (with_reducible repeat first | refine W.a1 d ?_ | refine W.a2 ?_ | refine W.a3 ?_ | refine W.bo ?_ | refine W.a5 d fun hw d lw kw => ?_ | refine W.a6 d ?_ | refine W.a7 ?_ | refine W.a8 ?_))
  exact W.ifF (by simp; omega) (W.ret rfl)
 | succ r ihr =>
  intro i h w ats a aa ok hi hat hn hal d
  have hlt : i < l.length := by omega
  have hwi := hw l[i] (List.getElem_mem _)
  have ed : l.drop i = l[i] :: l.drop (i + 1) := List.drop_eq_getElem_cons hlt
  have hn2 := hn
  rw [ed, sumL] at hn2
  obtain ⟨pk1, pk2⟩ := pt_ok (fr := 0) f l[i] hwi (w, ats)
  simp only at pk1 pk2
  generalize hq : pt 0 f (w, ats) l[i] = q at pk1 pk2
  suffices w1 : Wp (B134_0 base [some (.pointer (at0 wb)), some (.pointer (at0 sb)), some (.pointer (at0 tb)), some (.int .i64 (l.length : Int)), some (.int .i64 (at_ : Int)), some (.bool ok), some (.int .i64 (i : Int))] h) fun o => ∃ a' aa', o.1 = 0 ∧ o.2.1 = [some (.pointer (at0 wb)), some (.pointer (at0 sb)), some (.pointer (at0 tb)), some (.int .i64 (l.length : Int)), some (.int .i64 (at_ : Int)), some (.bool (ok && q.2.2)), some (.int .i64 ((i + 1 : Nat) : Int))] ∧ Hs base V h0 o.2.2 (wsD wb sb a' ((q.1.1.set (at_ + 2 * i) q.2.1).set (at_ + 2 * i + 1) (mkW 5 (0 + (at_ + 2 * i : Nat) + 2))).length aa' q.1.2.length ++ [(tb, 39, termV k n s al l.length)]) [rTSR P f l al, rW base a' ((q.1.1.set (at_ + 2 * i) q.2.1).set (at_ + 2 * i + 1) (mkW 5 (0 + (at_ + 2 * i : Nat) + 2))), rSt base aa' q.1.2] by
   obtain ⟨⟨o1, o2, h'⟩, e, a', aa', y1, y2, d'⟩ := w1
   simp only at y1 y2 d'
   subst y1; subst y2
   obtain ⟨o, eo, a2, aa2, z1, z2, z3⟩ := ihr (i + 1) h' _ _ a' aa' _ (by omega) (by rw [List.length_set, List.length_set]; omega) (by rw [List.length_set, List.length_set]; omega) (by omega) d'
   refine ⟨o, loop_on e eo, a2, aa2, z1, ?_, ?_⟩
   ·rw [z2, ed, ptL, hq]
    simp only
    rw [← Bool.and_assoc, show at_ + 2 * i + 2 = at_ + 2 * (i + 1) from by omega]
   ·rw [ed, ptL, hq]
    simp only
    rw [show at_ + 2 * i + 2 = at_ + 2 * (i + 1) from by omega]
    exact z3
  rw [B134_0_eq]
  ((try simp only [n1, n2, n3, n4, n5, n6] at d); (with_reducible repeat first | refine W.a1 d ?_ | refine W.a2 ?_ | refine W.a3 ?_ | refine W.bo ?_ | refine W.a5 d fun hw d lw kw => ?_ | refine W.a6 d ?_ | refine W.a7 ?_ | refine W.a8 ?_))
  refine W.ifT (decide_eq_true (by omega)) ?_
  cases f with
  | zero => obtain ⟨d', x, _, hx⟩ := hwi; rw [lk] at hx; omega
  | succ f =>
   refine W.joinP (fun z => z.1 = [some (.pointer (at0 wb)), some (.pointer (at0 sb)), some (.pointer (at0 tb)), some (.int .i64 (l.length : Int)), some (.int .i64 (at_ : Int)), some (.bool (ok && q.2.2)), some (.int .i64 (i : Int))] ∧ ∃ a' aa', Hs base V h0 z.2 (wsD wb sb a' ((q.1.1.set (at_ + 2 * i) q.2.1).set (at_ + 2 * i + 1) (mkW 5 (0 + (at_ + 2 * i : Nat) + 2))).length aa' q.1.2.length ++ [(tb, 39, termV k n s al l.length)]) [rTSR P (f + 1) l al, rW base a' ((q.1.1.set (at_ + 2 * i) q.2.1).set (at_ + 2 * i + 1) (mkW 5 (0 + (at_ + 2 * i : Nat) + 2))), rSt base aa' q.1.2]) ?_ ?_
   ·((try simp only [n1, n2, n3, n4, n5, n6] at d); (with_reducible repeat first | refine W.a1 d ?_ | refine W.a2 ?_ | refine W.a3 ?_ | refine W.bo ?_ | refine W.a5 d fun hw d lw kw => ?_ | refine W.a6 d ?_ | refine W.a7 ?_ | refine W.a8 ?_))
    refine W.t4 (d.rs (i := 0) rfl : TsR h P (f + 1) l al) hlt fun k2 n2 s2 a2 l2 el hm _ hsz hln => ?_
    rw [← el] at hm
    have d := d.also (i := 0) rfl rfl (fun y => TmR y P (f + 1) l[i] (termV k2 n2 s2 a2 l2.length)) hm (fun U y y' ky hs x => TmR.keep ky hs _ _ _ x)
    ((try simp only [n1, n2, n3, n4, n5, n6] at d); (with_reducible repeat first | refine W.a1 d ?_ | refine W.a2 ?_ | refine W.a3 ?_ | refine W.bo ?_ | refine W.a5 d fun hw d lw kw => ?_ | refine W.a6 d ?_ | refine W.a7 ?_ | refine W.a8 ?_))
    have d := d.sw4
    have d1 := Hs.part (D1 := [_, _]) (R1 := [_, _, _]) d
    refine W.wb (ih wb sb P l[i] _ w ats a aa _ _ _ hwi (by omega) hal d1) ?_
    rintro ⟨u, h4⟩ ⟨a', aa', y1, d2⟩
    simp only at y1 d2
    subst y1
    have d := (Hs.back (D1 := [_, _]) (R1 := [_, _, _]) d d2 (imP rfl rfl)).sw4
    rw [hq] at d ⊢
    have d := d.takeR 3
    clear d1 d2
    ((try simp only [n1, n2, n3, n4, n5, n6] at d); (with_reducible repeat first | refine W.a1 d ?_ | refine W.a2 ?_ | refine W.a3 ?_ | refine W.bo ?_ | refine W.a5 d fun hw d lw kw => ?_ | refine W.a6 d ?_ | refine W.a7 ?_ | refine W.a8 ?_))
    rw [w64i (n := 2 * (i : Int)) (by omega) (by omega), w64i (n := (at_ : Int) + 2 * (i : Int)) (by omega) (by omega)]
    refine W.ifT ⟨by omega, by omega⟩ ?_
    obtain ⟨ad, h5, ea, ew, d, _⟩ := d.setW (i := 1) (j := at_ + 2 * i) (v := q.2.1) rfl (by omega)
    subst ea
    refine W.bs rfl (W.bs (by rw [show Int.toNat ((at_ : Int) + 2 * (i : Int)) * 1 = at_ + 2 * i from by omega]; exact ew) ?_)
    ((try simp only [n1, n2, n3, n4, n5, n6] at d); (with_reducible repeat first | refine W.a1 d ?_ | refine W.a2 ?_ | refine W.a3 ?_ | refine W.bo ?_ | refine W.a5 d fun hw d lw kw => ?_ | refine W.a6 d ?_ | refine W.a7 ?_ | refine W.a8 ?_))
    refine W.bs specMk_run ?_
    ((try simp only [n1, n2, n3, n4, n5, n6] at d); (with_reducible repeat first | refine W.a1 d ?_ | refine W.a2 ?_ | refine W.a3 ?_ | refine W.bo ?_ | refine W.a5 d fun hw d lw kw => ?_ | refine W.a6 d ?_ | refine W.a7 ?_ | refine W.a8 ?_))
    rw [w64i (n := (at_ : Int) + 2 * (i : Int) + 2) (by omega) (by omega), w64i (n := (at_ : Int) + 2 * (i : Int) + 1) (by omega) (by omega)]
    refine W.ifT ⟨by omega, by omega⟩ ?_
    obtain ⟨ad2, h6, ea2, ew2, d, _⟩ := d.setW (i := 1) (j := at_ + 2 * i + 1) (v := mkW 5 ((at_ : Int) + 2 * (i : Int) + 2)) rfl (by rw [List.length_set]; omega)
    injection ea2 with ea2
    subst ea2
    refine W.bs rfl (W.bs (by rw [show Int.toNat ((at_ : Int) + 2 * (i : Int) + 1) * 1 = at_ + 2 * i + 1 from by omega]; exact ew2) ?_)
    rw [show (at_ : Int) + 2 * (i : Int) + 2 = 0 + ((at_ + 2 * i : Nat) : Int) + 2 from by omega] at d
    refine W.ite (fun co => ?_) (fun co => ?_)
    ·have co : ok = true := co
     refine W.inl ⟨by rw [co, Bool.true_and], some ad, aa', ?_⟩
     rw [List.length_set, List.length_set]
     exact d
    ·have co : ok = false := by simpa using co
     refine W.inl ⟨by rw [co, Bool.false_and], some ad, aa', ?_⟩
     rw [List.length_set, List.length_set]
     exact d
   ·rintro ⟨z1, z2⟩ ⟨y1, a', aa', d⟩
    simp only at y1 d
    subst y1
    ((try simp only [n1, n2, n3, n4, n5, n6] at d); (with_reducible repeat first | refine W.a1 d ?_ | refine W.a2 ?_ | refine W.a3 ?_ | refine W.bo ?_ | refine W.a5 d fun hw d lw kw => ?_ | refine W.a6 d ?_ | refine W.a7 ?_ | refine W.a8 ?_))
    dsimp only
    rw [w64i (n := (i : Int) + 1) (by omega) (by omega)]
    exact W.ret ⟨a', aa', rfl, rfl, d⟩
theorem sputList_run {base wb sb f : Nat} {P : Fp} {k n : Int} {s : ByteArray} {l : List Tm} {al : Option Addr} {V : Fp} {h0 h : AH} {w : List Int} {ats : List ByteArray} {a aa : Option Addr} (hl : l.length ≤ 20) (hwf : ∀ t ∈ l, Wf f t) (ih : SPutR base f) (hn : w.length + 2 * l.length + sumL (needT f) l ≤ 100000) (hal : ats.length ≤ 1048576) (d : Hs base V h0 h (wsD wb sb a w.length aa ats.length) [rTSR P f l al, rW base a w, rSt base aa ats]) :
  Wp (run (Et base) 134 [.pointer (at0 wb), .pointer (at0 sb), .agg (termV k n s al l.length).toArray] h) fun o => ∃ a' aa', o.1 = .tuple #[.int .i64 (pt 0 (f + 1) (w, ats) (.mk 5 0 ⟨#[]⟩ l)).2.1, .bool (pt 0 (f + 1) (w, ats) (.mk 5 0 ⟨#[]⟩ l)).2.2] ∧ Hs base V h0 o.2 (wsD wb sb a' (pt 0 (f + 1) (w, ats) (.mk 5 0 ⟨#[]⟩ l)).1.1.length aa' (pt 0 (f + 1) (w, ats) (.mk 5 0 ⟨#[]⟩ l)).1.2.length) [rTSR P f l al, rW base a' (pt 0 (f + 1) (w, ats) (.mk 5 0 ⟨#[]⟩ l)).1.1, rSt base aa' (pt 0 (f + 1) (w, ats) (.mk 5 0 ⟨#[]⟩ l)).1.2] := by
 refine W.of (fun r hx => Am.r134 hx) ?_
 rw [pt_list (by decide)]
 ((try simp only [n1, n2, n3, n4, n5, n6] at d); (with_reducible repeat first | refine W.a1 d ?_ | refine W.a2 ?_ | refine W.a3 ?_ | refine W.bo ?_ | refine W.a5 d fun hw d lw kw => ?_ | refine W.a6 d ?_ | refine W.a7 ?_ | refine W.a8 ?_); (refine W.nD d fun h1 d _ kh1 => ?_); (with_reducible repeat first | refine W.a1 d ?_ | refine W.a2 ?_ | refine W.a3 ?_ | refine W.bo ?_ | refine W.a5 d fun hw d lw kw => ?_ | refine W.a6 d ?_ | refine W.a7 ?_ | refine W.a8 ?_))
 have d := (d.front (Del.at (i := 2) rfl)).front (Del.at (i := 2) rfl)
 simp only [n5, n6] at d
 by_cases cl : l = []
 ·rw [if_pos cl]
  refine W.ifT (by rw [cl]; rfl) ?_
  refine W.bs specMk_run ?_
  ((try simp only [n1, n2, n3, n4, n5, n6] at d); (with_reducible repeat first | refine W.a1 d ?_ | refine W.a2 ?_ | refine W.a3 ?_ | refine W.bo ?_ | refine W.a5 d fun hw d lw kw => ?_ | refine W.a6 d ?_ | refine W.a7 ?_ | refine W.a8 ?_))
  exact W.ret ⟨a, aa, rfl, d.takeD 2⟩
 rw [if_neg cl]
 have hpos : 0 < l.length := List.length_pos_iff.2 cl
 refine W.ifF (by simp; omega) ?_
 ((try simp only [n1, n2, n3, n4, n5, n6] at d); (with_reducible repeat first | refine W.a1 d ?_ | refine W.a2 ?_ | refine W.a3 ?_ | refine W.bo ?_ | refine W.a5 d fun hw d lw kw => ?_ | refine W.a6 d ?_ | refine W.a7 ?_ | refine W.a8 ?_))
 rw [w64i (n := 2 * (l.length : Int)) (by omega) (by omega), show 2 * (l.length : Int) = ((2 * l.length : Nat) : Int) from by omega]
 refine W.ifT ⟨by omega, by omega⟩ ?_
 obtain ⟨a', h2, e2, d, _⟩ := d.extW (i := 1) (m := 2 * l.length) (new := List.replicate (2 * l.length) 0) (src := some (rep [.int .i64 0] (Int.toNat ((2 * l.length : Nat) : Int)))) rfl (by rw [Int.toNat_natCast, rep_ivs]) (by simp) (by omega)
 rw [Int.toNat_natCast] at e2 ⊢
 refine W.bs e2 ?_
 ((try simp only [n1, n2, n3, n4, n5, n6] at d); (with_reducible repeat first | refine W.a1 d ?_ | refine W.a2 ?_ | refine W.a3 ?_ | refine W.bo ?_ | refine W.a5 d fun hw d lw kw => ?_ | refine W.a6 d ?_ | refine W.a7 ?_ | refine W.a8 ?_))
 have hlen : (w ++ List.replicate (2 * l.length) 0).length = w.length + 2 * l.length := by simp
 rw [← hlen] at d
 refine W.wb (sputList_loop (base := base) (at_ := w.length) hl hwf ih l.length 0 _ _ ats a' aa true (by omega) (by omega) (by rw [List.drop_zero, hlen]; omega) hal d) ?_
 rintro ⟨o1, o2, h3⟩ ⟨a2, aa2, y1, y2, d⟩
 simp only at y1 y2 d
 subst y1; subst y2
 refine W.ifT rfl ?_
 rw [List.drop_zero, Nat.mul_zero, Nat.add_zero] at d
 rw [List.drop_zero, Nat.mul_zero, Nat.add_zero, Bool.true_and]
 have hz := ptL_len (g := pt 0 f) (fr := 0) (nd := needT f) l w.length (w ++ List.replicate (2 * l.length) 0, ats) (fun t ht => pt_ok f t (hwf t ht))
 simp only [hlen] at hz
 generalize ptL (pt 0 f) 0 l w.length (w ++ List.replicate (2 * l.length) 0, ats) = z at d hz ⊢
 ((try simp only [n1, n2, n3, n4, n5, n6] at d); (with_reducible repeat first | refine W.a1 d ?_ | refine W.a2 ?_ | refine W.a3 ?_ | refine W.bo ?_ | refine W.a5 d fun hw d lw kw => ?_ | refine W.a6 d ?_ | refine W.a7 ?_ | refine W.a8 ?_))
 refine W.bs specMk_run ?_
 ((try simp only [n1, n2, n3, n4, n5, n6] at d); (with_reducible repeat first | refine W.a1 d ?_ | refine W.a2 ?_ | refine W.a3 ?_ | refine W.bo ?_ | refine W.a5 d fun hw d lw kw => ?_ | refine W.a6 d ?_ | refine W.a7 ?_ | refine W.a8 ?_))
 rw [w64i (n := 2 * (l.length : Int)) (by omega) (by omega), w64i (n := (w.length : Int) + 2 * (l.length : Int)) (by omega) (by omega), w64i (n := (w.length : Int) + 2 * (l.length : Int) - 1) (by omega) (by omega)]
 refine W.ifT ⟨by omega, by omega⟩ ?_
 obtain ⟨ad, h5, ea, ew, d, _⟩ := d.setW (i := 1) (j := w.length + 2 * l.length - 1) (v := mkW 3 0) rfl (by omega)
 subst ea
 refine W.bs rfl (W.bs (by rw [show Int.toNat ((w.length : Int) + 2 * (l.length : Int) - 1) * 1 = w.length + 2 * l.length - 1 from by omega]; exact ew) ?_)
 ((try simp only [n1, n2, n3, n4, n5, n6] at d); (with_reducible repeat first | refine W.a1 d ?_ | refine W.a2 ?_ | refine W.a3 ?_ | refine W.bo ?_ | refine W.a5 d fun hw d lw kw => ?_ | refine W.a6 d ?_ | refine W.a7 ?_ | refine W.a8 ?_))
 refine W.bs specMk_run ?_
 ((try simp only [n1, n2, n3, n4, n5, n6] at d); (with_reducible repeat first | refine W.a1 d ?_ | refine W.a2 ?_ | refine W.a3 ?_ | refine W.bo ?_ | refine W.a5 d fun hw d lw kw => ?_ | refine W.a6 d ?_ | refine W.a7 ?_ | refine W.a8 ?_))
 rw [show mkW 3 0 = 3 from rfl] at d
 refine W.ret ⟨some ad, aa2, by rw [Int.zero_add], ?_⟩
 rw [List.length_set]
 exact d
theorem sput_succ {base f : Nat} (ih : SPutR base f) : SPutR base (f + 1) := by
 intro wb sb P t cs w ats a aa V h0 h hwf hn hal d
 obtain ⟨k, n, s, l⟩ := t
 obtain ⟨hsh, hch⟩ := hwf.open
 obtain ⟨ks, k0, k1, k3, k4, k5, k6⟩ := sh_kinds hsh
 have hm : TmR h P (f + 1) (.mk k n s l) cs := d.rs (i := 0) rfl
 obtain ⟨al, rfl, hts, hsz, hln⟩ := hm.parts
 have hl20 : l.length ≤ 20 := by
  by_cases c4 : k = 4
  ·have := k4 c4; omega
  ·by_cases c5 : k = 5
   ·exact k5 c5
   ·rw [k0 c4 c5]; omega
 rw [needT] at hn
 have d := d.also (i := 0) rfl rfl (fun y => TsR y P f l al) hts (fun U y y' ky hs x => x.keep ky hs)
 simp only [n5, n6] at d
 refine W.of (fun r hx => Am.r72 hx) ?_
 ((try simp only [n1, n2, n3, n4, n5, n6] at d); (with_reducible repeat first | refine W.a1 d ?_ | refine W.a2 ?_ | refine W.a3 ?_ | refine W.bo ?_ | refine W.a5 d fun hw d lw kw => ?_ | refine W.a6 d ?_ | refine W.a7 ?_ | refine W.a8 ?_); (refine W.nD d fun h1 d _ kh1 => ?_); (with_reducible repeat first | refine W.a1 d ?_ | refine W.a2 ?_ | refine W.a3 ?_ | refine W.bo ?_ | refine W.a5 d fun hw d lw kw => ?_ | refine W.a6 d ?_ | refine W.a7 ?_ | refine W.a8 ?_))
 have d := (d.front (Del.at (i := 2) rfl)).front (Del.at (i := 2) rfl)
 simp only [n5, n6] at d
 refine W.ite (fun c => ?_) (fun c => ?_)
 ·have c : k = 1 := by simpa using c
  have := k1 c
  rw [show pt 0 (f + 1) (w, ats) (.mk k n s l) = ((w, ats), mkW 0 (n + 1000000), true) from by rw [pt, if_pos c]]
  ((try simp only [n1, n2, n3, n4, n5, n6] at d); (with_reducible repeat first | refine W.a1 d ?_ | refine W.a2 ?_ | refine W.a3 ?_ | refine W.bo ?_ | refine W.a5 d fun hw d lw kw => ?_ | refine W.a6 d ?_ | refine W.a7 ?_ | refine W.a8 ?_))
  rw [w64i (n := n + 1000000) (by omega) (by omega)]
  refine W.bs specMk_run ?_
  ((try simp only [n1, n2, n3, n4, n5, n6] at d); (with_reducible repeat first | refine W.a1 d ?_ | refine W.a2 ?_ | refine W.a3 ?_ | refine W.bo ?_ | refine W.a5 d fun hw d lw kw => ?_ | refine W.a6 d ?_ | refine W.a7 ?_ | refine W.a8 ?_))
  exact W.ret ⟨a, aa, rfl, (d.takeD 2).takeR 3⟩
 have c1 : ¬ k = 1 := by simpa using c
 refine W.ite (fun c => ?_) (fun c => ?_)
 ·have c : k = 3 := by simpa using c
  rw [show pt 0 (f + 1) (w, ats) (.mk k n s l) = ((w, ats), mkW 2 n, true) from by rw [pt, if_neg c1, if_neg (by omega), if_pos c]]
  ((try simp only [n1, n2, n3, n4, n5, n6] at d); (with_reducible repeat first | refine W.a1 d ?_ | refine W.a2 ?_ | refine W.a3 ?_ | refine W.bo ?_ | refine W.a5 d fun hw d lw kw => ?_ | refine W.a6 d ?_ | refine W.a7 ?_ | refine W.a8 ?_))
  refine W.bs specMk_run ?_
  ((try simp only [n1, n2, n3, n4, n5, n6] at d); (with_reducible repeat first | refine W.a1 d ?_ | refine W.a2 ?_ | refine W.a3 ?_ | refine W.bo ?_ | refine W.a5 d fun hw d lw kw => ?_ | refine W.a6 d ?_ | refine W.a7 ?_ | refine W.a8 ?_))
  exact W.ret ⟨a, aa, rfl, (d.takeD 2).takeR 3⟩
 have c3 : ¬ k = 3 := by simpa using c
 refine W.ite (fun c => ?_) (fun c => ?_)
 ·have c : k = 2 := by simpa using c
  rw [show pt 0 (f + 1) (w, ats) (.mk k n s l) = ((w, (addA ats s).1), mkW 1 (addA ats s).2, decide ((addA ats s).2 ≥ 0)) from by rw [pt, if_neg c1, if_pos c]]
  have hl := addA_len ats s
  obtain ⟨a2, h2, e2, o2, kk, f2⟩ := specAdd_run (base := base) h1 ats aa s hal hsz (d.rs (i := 2) rfl : Own base 9 h1 aa (stV ats)).sl (d.rlt (i := 2) rfl) d.ge
  ((try simp only [n1, n2, n3, n4, n5, n6] at d); (with_reducible repeat first | refine W.a1 d ?_ | refine W.a2 ?_ | refine W.a3 ?_ | refine W.bo ?_ | refine W.a5 d fun hw d lw kw => ?_ | refine W.a6 d ?_ | refine W.a7 ?_ | refine W.a8 ?_))
  refine W.bs e2 ?_
  have d := d.call kk (blk a2) (fun y => Own base 9 y a2 (stV (addA ats s).1)) o2 (fun U y y' ky hs x => x.keep ky hs) (fun b hb => ⟨f2 b hb, (o2.lt hb).2⟩)
  have d := d.pk5
  ((try simp only [n1, n2, n3, n4, n5, n6] at d); (with_reducible repeat first | refine W.a1 d ?_ | refine W.a2 ?_ | refine W.a3 ?_ | refine W.bo ?_ | refine W.a5 d fun hw d lw kw => ?_ | refine W.a6 d ?_ | refine W.a7 ?_ | refine W.a8 ?_))
  refine W.bs specMk_run ?_
  ((try simp only [n1, n2, n3, n4, n5, n6] at d); (with_reducible repeat first | refine W.a1 d ?_ | refine W.a2 ?_ | refine W.a3 ?_ | refine W.bo ?_ | refine W.a5 d fun hw d lw kw => ?_ | refine W.a6 d ?_ | refine W.a7 ?_ | refine W.a8 ?_))
  exact W.ret ⟨a, a2, rfl, d.takeD 2⟩
 have c2 : ¬ k = 2 := by simpa using c
 refine W.ite (fun c => ?_) (fun c => ?_)
 ·have c : k = 6 := by simpa using c
  have c4 : k ≠ 4 := by omega
  have c5 : k ≠ 5 := by omega
  have hs40 := k6 c
  have hbl := bsL_len s
  rw [show pt 0 (f + 1) (w, ats) (.mk k n s l) = ((w ++ (s.size : Int) :: bsL s, ats), mkW 6 (0 + w.length), true) from by rw [pt, if_neg c1, if_neg c2, if_neg c3, if_pos c]]
  rw [show ndN k s l.length = 1 + s.size from by unfold ndN; rw [if_neg c4, if_neg c5, if_pos c]] at hn
  have d := d.takeR 3
  ((try simp only [n1, n2, n3, n4, n5, n6] at d); (with_reducible repeat first | refine W.a1 d ?_ | refine W.a2 ?_ | refine W.a3 ?_ | refine W.bo ?_ | refine W.a5 d fun hw d lw kw => ?_ | refine W.a6 d ?_ | refine W.a7 ?_ | refine W.a8 ?_); (refine W.nD d fun h2 d _ kh2 => ?_); (with_reducible repeat first | refine W.a1 d ?_ | refine W.a2 ?_ | refine W.a3 ?_ | refine W.bo ?_ | refine W.a5 d fun hw d lw kw => ?_ | refine W.a6 d ?_ | refine W.a7 ?_ | refine W.a8 ?_))
  obtain ⟨a5, h5, e5, d⟩ := d.app1W (i := 1) rfl rfl (by omega)
  refine W.bs e5 ?_
  ((try simp only [n1, n2, n3, n4, n5, n6] at d); (with_reducible repeat first | refine W.a1 d ?_ | refine W.a2 ?_ | refine W.a3 ?_ | refine W.bo ?_ | refine W.a5 d fun hw d lw kw => ?_ | refine W.a6 d ?_ | refine W.a7 ?_ | refine W.a8 ?_))
  have d := d.tl
  have e0 : w ++ [(s.size : Int)] = w ++ (s.size : Int) :: (bsL s).take 0 := by simp
  rw [e0, show w.length + 1 = (w ++ (s.size : Int) :: (bsL s).take 0).length from by simp] at d
  refine W.wb (sputBin_loop (base := base) hs40 (by omega) s.size 0 _ a5 (by omega) d) ?_
  rintro ⟨o1, o2, h4⟩ ⟨a6, y1, y2, d⟩
  simp only at y1 y2 d
  subst y1; subst y2
  refine W.ifT rfl ?_
  ((try simp only [n1, n2, n3, n4, n5, n6] at d); (with_reducible repeat first | refine W.a1 d ?_ | refine W.a2 ?_ | refine W.a3 ?_ | refine W.bo ?_ | refine W.a5 d fun hw d lw kw => ?_ | refine W.a6 d ?_ | refine W.a7 ?_ | refine W.a8 ?_))
  refine W.bs specMk_run ?_
  ((try simp only [n1, n2, n3, n4, n5, n6] at d); (with_reducible repeat first | refine W.a1 d ?_ | refine W.a2 ?_ | refine W.a3 ?_ | refine W.bo ?_ | refine W.a5 d fun hw d lw kw => ?_ | refine W.a6 d ?_ | refine W.a7 ?_ | refine W.a8 ?_))
  exact W.ret ⟨a6, aa, by rw [Int.zero_add], d⟩
 have c6 : ¬ k = 6 := by simpa using c
 refine W.ite (fun c => ?_) (fun c => ?_)
 ·have c : k = 4 := by simpa using c
  have hl8 := k4 c
  rw [show pt 0 (f + 1) (w, ats) (.mk k n s l) = ((ptT (pt 0 f) l (w.length + 1) (w ++ (l.length : Int) :: List.replicate l.length 0, ats)).1, mkW 4 (0 + w.length), (ptT (pt 0 f) l (w.length + 1) (w ++ (l.length : Int) :: List.replicate l.length 0, ats)).2) from by rw [pt, if_neg c1, if_neg c2, if_neg c3, if_neg c6, if_pos c]]
  rw [show ndN k s l.length = 1 + l.length from by unfold ndN; rw [if_pos c]] at hn
  have d := d.sw4
  ((try simp only [n1, n2, n3, n4, n5, n6] at d); (with_reducible repeat first | refine W.a1 d ?_ | refine W.a2 ?_ | refine W.a3 ?_ | refine W.bo ?_ | refine W.a5 d fun hw d lw kw => ?_ | refine W.a6 d ?_ | refine W.a7 ?_ | refine W.a8 ?_); (refine W.nD d fun h2 d _ kh2 => ?_); (with_reducible repeat first | refine W.a1 d ?_ | refine W.a2 ?_ | refine W.a3 ?_ | refine W.bo ?_ | refine W.a5 d fun hw d lw kw => ?_ | refine W.a6 d ?_ | refine W.a7 ?_ | refine W.a8 ?_))
  obtain ⟨a5, h5, e5, d⟩ := d.app1W (i := 1) rfl rfl (by omega)
  refine W.bs e5 ?_
  ((try simp only [n1, n2, n3, n4, n5, n6] at d); (with_reducible repeat first | refine W.a1 d ?_ | refine W.a2 ?_ | refine W.a3 ?_ | refine W.bo ?_ | refine W.a5 d fun hw d lw kw => ?_ | refine W.a6 d ?_ | refine W.a7 ?_ | refine W.a8 ?_))
  have d := d.tl
  refine W.ifT ⟨by omega, by omega⟩ ?_
  obtain ⟨a', h6, e6, d, _⟩ := d.extW (i := 1) (m := l.length) (new := List.replicate l.length 0) (src := some (rep [.int .i64 0] (Int.toNat ((l.length : Nat) : Int)))) rfl (by rw [Int.toNat_natCast, rep_ivs]) (by simp) (by simp; omega)
  rw [Int.toNat_natCast] at e6 ⊢
  rw [show (w ++ [(l.length : Int)]).length = w.length + 1 from by simp] at e6
  refine W.bs e6 ?_
  ((try simp only [n1, n2, n3, n4, n5, n6] at d); (with_reducible repeat first | refine W.a1 d ?_ | refine W.a2 ?_ | refine W.a3 ?_ | refine W.bo ?_ | refine W.a5 d fun hw d lw kw => ?_ | refine W.a6 d ?_ | refine W.a7 ?_ | refine W.a8 ?_))
  have e0 : w ++ [(l.length : Int)] ++ List.replicate l.length 0 = w ++ (l.length : Int) :: List.replicate l.length 0 := by simp
  have hlen2 : (w ++ (l.length : Int) :: List.replicate l.length 0).length = w.length + 1 + l.length := by simp; omega
  rw [e0, ← hlen2] at d
  have d1 := Hs.part (D1 := [_, _, _]) (R1 := [_, _, _]) d
  refine W.wb (sputTup_loop (base := base) (at_ := w.length) hl20 hch ih l.length 0 _ _ ats a' aa true (by omega) (by omega) (by rw [List.drop_zero, hlen2]; omega) hal d1) ?_
  rintro ⟨o1, o2, h4⟩ ⟨a4, aa4, y1, y2, d2⟩
  simp only at y1 y2 d2
  subst y1; subst y2
  have d := (Hs.back (D1 := [_, _, _]) (R1 := [_, _, _]) d d2 (imP rfl rfl)).sw4
  rw [List.drop_zero, Nat.add_zero] at d
  rw [List.drop_zero, Nat.add_zero, Bool.true_and]
  have d := d.takeR 3
  clear d1 d2
  refine W.ifT rfl ?_
  ((try simp only [n1, n2, n3, n4, n5, n6] at d); (with_reducible repeat first | refine W.a1 d ?_ | refine W.a2 ?_ | refine W.a3 ?_ | refine W.bo ?_ | refine W.a5 d fun hw d lw kw => ?_ | refine W.a6 d ?_ | refine W.a7 ?_ | refine W.a8 ?_))
  refine W.bs specMk_run ?_
  ((try simp only [n1, n2, n3, n4, n5, n6] at d); (with_reducible repeat first | refine W.a1 d ?_ | refine W.a2 ?_ | refine W.a3 ?_ | refine W.bo ?_ | refine W.a5 d fun hw d lw kw => ?_ | refine W.a6 d ?_ | refine W.a7 ?_ | refine W.a8 ?_))
  exact W.ret ⟨a4, aa4, by rw [Int.zero_add], d⟩
 have c4 : ¬ k = 4 := by simpa using c
 have c5 : k = 5 := by omega
 rw [show ndN k s l.length = 2 * l.length from by unfold ndN; rw [if_neg c4, if_pos c5]] at hn
 ((try simp only [n1, n2, n3, n4, n5, n6] at d); (with_reducible repeat first | refine W.a1 d ?_ | refine W.a2 ?_ | refine W.a3 ?_ | refine W.bo ?_ | refine W.a5 d fun hw d lw kw => ?_ | refine W.a6 d ?_ | refine W.a7 ?_ | refine W.a8 ?_))
 have d := d.sw4
 have d1 := Hs.part (D1 := [_, _]) (R1 := [_, _, _]) d
 refine W.wb (sputList_run (base := base) (k := k) (n := n) (s := s) hl20 hch ih (by omega) hal d1) ?_
 rintro ⟨u, h4⟩ ⟨a4, aa4, y1, d2⟩
 simp only at y1 d2
 subst y1
 have d := (Hs.back (D1 := [_, _]) (R1 := [_, _, _]) d d2 (imP rfl rfl)).sw4
 have d := (d.takeD 2).takeR 3
 clear d1 d2
 rw [pt_list (by decide)] at d ⊢
 rw [pt_list ⟨c1, c2, c3, c6, c4⟩]
 ((try simp only [n1, n2, n3, n4, n5, n6] at d); (with_reducible repeat first | refine W.a1 d ?_ | refine W.a2 ?_ | refine W.a3 ?_ | refine W.bo ?_ | refine W.a5 d fun hw d lw kw => ?_ | refine W.a6 d ?_ | refine W.a7 ?_ | refine W.a8 ?_))
 exact W.ret ⟨a4, aa4, rfl, d⟩
theorem sput_run {base : Nat} : ∀ f, SPutR base f
 | 0 => fun wb sb P t cs w ats a aa V h0 h hwf _ _ _ => by obtain ⟨d, x, _, hx⟩ := hwf; rw [lk] at hx; omega
 | f + 1 => sput_succ (sput_run f)
end Go.Proofs.Ytjmkbglnjklbcaa.Am
set_option linter.unusedSimpArgs false
set_option linter.unusedVariables false
namespace Go.Proofs.Ytjmkbglnjklbcaa.Am
open Go Go.RowKit
def roomT (most : Int) (f : Nat) (w : List Int) (t : Tm) : Bool := tOk f t && decide ((w.length : Int) + needT f t ≤ most)
def putT (fr most : Int) (f : Nat) (w : List Int) (ats : List ByteArray) (t : Tm) : PS × Int × Bool :=
 if (roomT most f w t && (pt fr f (w, ats) t).2.2) = true then ((pt fr f (w, ats) t).1, (pt fr f (w, ats) t).2.1, true) else ((w, ats), 0, false)
theorem roomT_no {most : Int} {f : Nat} {w : List Int} {t : Tm} (n1 : Int) (h1 : n1 = needT f t) : (if (!tOk f t) = true then true else if decide ((w.length : Int) > most) = true then true else decide (n1 > most - (w.length : Int))) = !roomT most f w t := by
 unfold roomT
 subst h1
 cases tOk f t with
 | false => rfl
 | true =>
  by_cases c : (w.length : Int) > most
  ·have : ¬ ((w.length : Int) + needT f t ≤ most) := by omega
   simp [c, this]
  ·by_cases c2 : (w.length : Int) + needT f t ≤ most
   ·have : ¬ ((needT f t : Int) > most - (w.length : Int)) := by omega
    have e : ¬ ((needT f t : Int) > most - (w.length : Int)) := this
    simp only [Bool.not_true, decide_eq_true_eq, c, if_false, Bool.true_and]
    rw [decide_eq_false e, decide_eq_true c2]
    rfl
   ·have e : (needT f t : Int) > most - (w.length : Int) := by omega
    simp only [Bool.not_true, decide_eq_true_eq, c, if_false, Bool.true_and]
    rw [decide_eq_true e, decide_eq_false c2]
    rfl
theorem putT_no {fr most : Int} {f : Nat} {w : List Int} {ats : List ByteArray} {t : Tm} (h : roomT most f w t = false) : putT fr most f w ats t = ((w, ats), 0, false) := by
 unfold putT
 rw [h, Bool.false_and]
 rfl
theorem Hs.sw3 {base : Nat} {V : Fp} {h0 h : AH} {D : Ds} {x y z : Rs} (d : Hs base V h0 h D [x, y, z]) : Hs base V h0 h D [x, z, y] :=
 (d.frontR (Del.at (i := 2) rfl)).frontR (Del.at (i := 1) rfl)
theorem implPutT_run {base f : Nat} {h : AH} {p : Nat → Prop} {t : Tm} {cs : List Value} {w : List Int} {ats : List ByteArray} {a aa : Option Addr} {fr most : Int} (hm : TmR h p f t cs) (hp : ∀ b, p b → b < h.length) (hs : Sl h a (iv .i64 w)) (has : Sl h aa (stV ats)) (hwl : w.length ≤ 1048576) (hal : ats.length ≤ 1048576) (hfr : 0 ≤ fr ∧ fr ≤ 200000) (hmo : 0 ≤ most ∧ most ≤ 100000) (hb : base ≤ h.length) :
  ∃ a' aa' h', run (Et base) 74 [.slice a w.length w.length, .int .i64 fr, .int .i64 most, .slice aa ats.length ats.length, .agg cs.toArray] h = some (.tuple #[.slice a' (putT fr most f w ats t).1.1.length (putT fr most f w ats t).1.1.length, .slice aa' (putT fr most f w ats t).1.2.length (putT fr most f w ats t).1.2.length, .int .i64 (putT fr most f w ats t).2.1, .bool (putT fr most f w ats t).2.2], h') ∧ Hs base NoB h h' [] [rW base a' (putT fr most f w ats t).1.1, rSt base aa' (putT fr most f w ats t).1.2] := by
 have d := Hs.start hb
 have d := d.inp p (fun y => TmR y p f t cs) hm (fun U y y' ky hs x => TmR.keep ky hs _ _ _ x) hp (by simp) rfl
 simp only [List.nil_append] at d
 suffices W : Wp (run (Et base) 74 [.slice a w.length w.length, .int .i64 fr, .int .i64 most, .slice aa ats.length ats.length, .agg cs.toArray] h) fun o => ∃ a' aa', o.1 = .tuple #[.slice a' (putT fr most f w ats t).1.1.length (putT fr most f w ats t).1.1.length, .slice aa' (putT fr most f w ats t).1.2.length (putT fr most f w ats t).1.2.length, .int .i64 (putT fr most f w ats t).2.1, .bool (putT fr most f w ats t).2.2] ∧ Hs base NoB h o.2 [] [rW base a' (putT fr most f w ats t).1.1, rSt base aa' (putT fr most f w ats t).1.2] by
  obtain ⟨⟨o1, o2⟩, e, a', aa', y1, y2⟩ := W
  simp only at y1 y2
  subst y1
  exact ⟨a', aa', o2, e, y2⟩
 have hm0 := hm
 cases f with
 | zero => exact hm.elim
 | succ f =>
 obtain ⟨k, n, s, l⟩ := t
 obtain ⟨al, rfl, hts, hsz, hln⟩ := hm.parts
 refine W.of (fun r hx => Am.r74 hx) ?_
 ((try simp only [n1, n2, n3, n4, n5, n6] at d); (with_reducible repeat first | refine W.a1 d ?_ | refine W.a2 ?_ | refine W.a3 ?_ | refine W.bo ?_ | refine W.a5 d fun hw d lw kw => ?_ | refine W.a6 d ?_ | refine W.a7 ?_ | refine W.a8 ?_); (refine W.nD d fun h1 d _ kh1 => ?_); (with_reducible repeat first | refine W.a1 d ?_ | refine W.a2 ?_ | refine W.a3 ?_ | refine W.bo ?_ | refine W.a5 d fun hw d lw kw => ?_ | refine W.a6 d ?_ | refine W.a7 ?_ | refine W.a8 ?_))
 obtain ⟨a1, h2, e2, d, k2⟩ := d.copyS hal (has.keepN d.kb)
 refine W.bs e2 ?_
 ((try simp only [n1, n2, n3, n4, n5, n6] at d); (with_reducible repeat first | refine W.a1 d ?_ | refine W.a2 ?_ | refine W.a3 ?_ | refine W.bo ?_ | refine W.a5 d fun hw d lw kw => ?_ | refine W.a6 d ?_ | refine W.a7 ?_ | refine W.a8 ?_))
 have hnd : tOk (f + 1) (.mk k n s l) = true → needT (f + 1) (.mk k n s l) ≤ 4100 := fun h => (Wf.of h).need
 apply W.jb (if (!tOk (f + 1) (.mk k n s l)) = true then true else if decide ((w.length : Int) > most) = true then true else decide ((needT (f + 1) (.mk k n s l) : Int) > most - (w.length : Int))) d
 ·((try simp only [n1, n2, n3, n4, n5, n6] at d); (with_reducible repeat first | refine W.a1 d ?_ | refine W.a2 ?_ | refine W.a3 ?_ | refine W.bo ?_ | refine W.a5 d fun hw d lw kw => ?_ | refine W.a6 d ?_ | refine W.a7 ?_ | refine W.a8 ?_))
  obtain ⟨h3, e3, k3⟩ := implTermOk_run (base := base) (hm0.keep d.kb (fun _ _ h => h)) d.ge
  refine W.bs e3 ?_
  have d := d.kN k3
  ((try simp only [n1, n2, n3, n4, n5, n6] at d); (with_reducible repeat first | refine W.a1 d ?_ | refine W.a2 ?_ | refine W.a3 ?_ | refine W.bo ?_ | refine W.a5 d fun hw d lw kw => ?_ | refine W.a6 d ?_ | refine W.a7 ?_ | refine W.a8 ?_))
  refine W.ite (fun c => ?_) (fun c => ?_)
  ·rw [if_pos c]
   exact W.lb rfl rfl k3
  rw [if_neg c]
  have hto : tOk (f + 1) (.mk k n s l) = true := by simpa using c
  refine W.ite (fun c2 => ?_) (fun c2 => ?_)
  ·rw [if_pos c2]
   exact W.lb rfl rfl k3
  rw [if_neg c2]
  ((try simp only [n1, n2, n3, n4, n5, n6] at d); (with_reducible repeat first | refine W.a1 d ?_ | refine W.a2 ?_ | refine W.a3 ?_ | refine W.bo ?_ | refine W.a5 d fun hw d lw kw => ?_ | refine W.a6 d ?_ | refine W.a7 ?_ | refine W.a8 ?_))
  obtain ⟨h4, e4, k4⟩ := implNeed_run (base := base) (f + 1) h3 p _ _ (hm0.keep d.kb (fun _ _ h => h)) (Wf.of hto) d.ge
  refine W.bs e4 ?_
  ((try simp only [n1, n2, n3, n4, n5, n6] at d); (with_reducible repeat first | refine W.a1 d ?_ | refine W.a2 ?_ | refine W.a3 ?_ | refine W.bo ?_ | refine W.a5 d fun hw d lw kw => ?_ | refine W.a6 d ?_ | refine W.a7 ?_ | refine W.a8 ?_))
  rw [w64i (n := most - (w.length : Int)) (by omega) (by omega)]
  exact W.lb rfl rfl (kN k3 k4)
 intro h3 d n3
 rw [roomT_no _ rfl]
 ((try simp only [n1, n2, n3, n4, n5, n6] at d); (with_reducible repeat first | refine W.a1 d ?_ | refine W.a2 ?_ | refine W.a3 ?_ | refine W.bo ?_ | refine W.a5 d fun hw d lw kw => ?_ | refine W.a6 d ?_ | refine W.a7 ?_ | refine W.a8 ?_))
 refine W.ite (fun c => ?_) (fun c => ?_)
 ·have c : roomT most (f + 1) w (.mk k n s l) = false := by simpa using c
  rw [putT_no c]
  obtain ⟨a4, h4, e4, o4, k4, f4⟩ := copyIntsO_run (base := base) (hs.keepN d.kb) (by omega) d.ge
  refine W.bs e4 ?_
  have d := d.call k4 (blk a4) (fun y => Own base 3 y a4 (iv .i64 w)) o4 (fun U y y' k hs x => x.keep k hs) (fun i hi => ⟨f4 i hi, (o4.lt hi).2⟩)
  ((try simp only [n1, n2, n3, n4, n5, n6] at d); (with_reducible repeat first | refine W.a1 d ?_ | refine W.a2 ?_ | refine W.a3 ?_ | refine W.bo ?_ | refine W.a5 d fun hw d lw kw => ?_ | refine W.a6 d ?_ | refine W.a7 ?_ | refine W.a8 ?_))
  have d := (((d.frontR (Del.at (i := 2) rfl)).frontR (Del.at (i := 2) rfl)).frontR (Del.at (i := 1) rfl)).takeR 2
  exact W.ret ⟨a4, a1, rfl, d.takeD 0⟩
 have c : roomT most (f + 1) w (.mk k n s l) = true := by simpa using c
 have c' := c
 unfold roomT at c'
 rw [Bool.and_eq_true] at c'
 obtain ⟨hto, hrm⟩ := c'
 have hrm := of_decide_eq_true hrm
 have hwf := Wf.of hto
 obtain ⟨a4, h4, e4, o4, k4, f4⟩ := copyIntsO_run (base := base) (hs.keepN d.kb) (by omega) d.ge
 refine W.bs e4 ?_
 have d := d.call k4 (blk a4) (fun y => Own base 3 y a4 (iv .i64 w)) o4 (fun U y y' k hs x => x.keep k hs) (fun i hi => ⟨f4 i hi, (o4.lt hi).2⟩)
 ((try simp only [n1, n2, n3, n4, n5, n6] at d); (with_reducible repeat first | refine W.a1 d ?_ | refine W.a2 ?_ | refine W.a3 ?_ | refine W.bo ?_ | refine W.a5 d fun hw d lw kw => ?_ | refine W.a6 d ?_ | refine W.a7 ?_ | refine W.a8 ?_); (refine W.nD d fun h5 d _ kh5 => ?_); (with_reducible repeat first | refine W.a1 d ?_ | refine W.a2 ?_ | refine W.a3 ?_ | refine W.bo ?_ | refine W.a5 d fun hw d lw kw => ?_ | refine W.a6 d ?_ | refine W.a7 ?_ | refine W.a8 ?_))
 have d := d.sw3
 have d1 := Hs.part (D1 := [_]) (R1 := [_, _, _]) (R2 := []) d
 refine W.wb (put_run (base := base) (f + 1) _ fr p _ _ w ats a4 a1 false _ _ _ hwf hfr (by omega) hal d1) ?_
 rintro ⟨u, h6⟩ ⟨a', aa', y1, d2⟩
 simp only at y1 d2
 subst y1
 have d := Hs.back (D1 := [_]) (R1 := [_, _, _]) (R2 := []) d d2 (imP rfl rfl)
 clear d1 d2
 unfold putT
 rw [c, Bool.true_and]
 generalize pt fr (f + 1) (w, ats) (.mk k n s l) = z at d ⊢
 ((try simp only [n1, n2, n3, n4, n5, n6] at d); (with_reducible repeat first | refine W.a1 d ?_ | refine W.a2 ?_ | refine W.a3 ?_ | refine W.bo ?_ | refine W.a5 d fun hw d lw kw => ?_ | refine W.a6 d ?_ | refine W.a7 ?_ | refine W.a8 ?_))
 refine W.ite (fun cb => ?_) (fun cb => ?_)
 ·have cb : z.2.2 = false := by simpa using cb
  rw [cb, if_neg (by decide)]
  obtain ⟨a7, h7, e7, o7, k7, f7⟩ := copyIntsO_run (base := base) (hs.keepN d.kb) (by omega) d.ge
  refine W.bs e7 ?_
  have d := d.call k7 (blk a7) (fun y => Own base 3 y a7 (iv .i64 w)) o7 (fun U y y' k hs x => x.keep k hs) (fun i hi => ⟨f7 i hi, (o7.lt hi).2⟩)
  ((try simp only [n1, n2, n3, n4, n5, n6] at d); (with_reducible repeat first | refine W.a1 d ?_ | refine W.a2 ?_ | refine W.a3 ?_ | refine W.bo ?_ | refine W.a5 d fun hw d lw kw => ?_ | refine W.a6 d ?_ | refine W.a7 ?_ | refine W.a8 ?_))
  obtain ⟨a8, h8, e8, d, k8⟩ := d.copyS hal (has.keepN d.kb)
  refine W.bs e8 ?_
  ((try simp only [n1, n2, n3, n4, n5, n6] at d); (with_reducible repeat first | refine W.a1 d ?_ | refine W.a2 ?_ | refine W.a3 ?_ | refine W.bo ?_ | refine W.a5 d fun hw d lw kw => ?_ | refine W.a6 d ?_ | refine W.a7 ?_ | refine W.a8 ?_))
  have d := ((d.frontR (Del.at (i := 4) rfl)).frontR (Del.at (i := 4) rfl)).takeR 2
  exact W.ret ⟨a7, a8, rfl, d.takeD 0⟩
 ·have cb : z.2.2 = true := by simpa using cb
  rw [cb, if_pos rfl]
  ((try simp only [n1, n2, n3, n4, n5, n6] at d); (with_reducible repeat first | refine W.a1 d ?_ | refine W.a2 ?_ | refine W.a3 ?_ | refine W.bo ?_ | refine W.a5 d fun hw d lw kw => ?_ | refine W.a6 d ?_ | refine W.a7 ?_ | refine W.a8 ?_))
  have d := ((d.frontR (Del.at (i := 2) rfl)).frontR (Del.at (i := 2) rfl)).takeR 2
  exact W.ret ⟨a', aa', rfl, d.takeD 0⟩
end Go.Proofs.Ytjmkbglnjklbcaa.Am
set_option linter.unusedSimpArgs false
set_option linter.unusedVariables false
namespace Go.Proofs.Ytjmkbglnjklbcaa.Am
open Go Go.RowKit
theorem Hs.copyG {base b t bytes m : Nat} {V : Fp} {h0 h : AH} {D : Ds} {R : List Rs} {vs : List Value} {src : Option (List Value)} (d : Hs base V h0 h ((b, t, []) :: D) R) (hs : src = some vs) (hm : vs.length = m) (h1 : m ≤ 1048576 * 4) (hby : bytes ≤ 16) :
  ∃ a' h', Am.app base h t 1 bytes (at0 b) 0 src m = some (.slice a' m m, h') ∧ Hs base V h0 h' D (R ++ [⟨blk a', true, fun y => Own base t y a' vs⟩]) := by
 have d := d.unbox (Del.at (i := 0) rfl)
 simp only [n5, n6] at d
 have hbm : (0 + m) * bytes ≤ 140737488355328 := by
  have : (0 + m) * bytes ≤ (1048576 * 4) * 16 := Nat.mul_le_mul (by omega) hby
  omega
 obtain ⟨a2, h2, e2, d, k2⟩ := d.appN (i := R.length) (n := 0) (m := m) (sz := 1) (bytes := bytes) (a := at0 b) (t := t) (olds := []) (S := (· = b)) (by simp) (fun b hb => (blk_at0.1 hb)) (by simp) (by decide) hs hbm (by omega) (by omega)
 simp only [List.nil_append, Nat.zero_add] at e2 d
 refine ⟨a2, h2, e2, ?_⟩
 have e : ∀ (x y : Rs), (R ++ [x]).set R.length y = R ++ [y] := by intro x y; simp
 rw [e] at d
 exact d
theorem raw_ivs {h : AH} {a : Option Addr} {l : List Int} (x : Sl h a (iv .i64 l)) : rawAt h a (l.length * 1) = some (iv .i64 l) := by
 have := x.raw (iv_leaf _ _)
 simpa using this
theorem raw_st {h : AH} {a : Option Addr} {l : List ByteArray} (x : Sl h a (stV l)) : rawAt h a (l.length * 1) = some (stV l) := by
 have := x.raw (stV_leaf l)
 rw [stV_len] at this
 rw [Nat.mul_one]
 exact this
theorem Hs.call2R {base : Nat} {V : Fp} {h0 h h' : AH} {D D' : Ds} {R : List Rs} {x y : Rs} (d : Hs base V h0 h D R) (z : Hs base NoB h h' D' [x, y]) (hx : x.mu = true) (hy : y.mu = true) : Hs base V h0 h' D (R ++ [x, y]) := by
 obtain ⟨S, mx, A⟩ := x
 obtain ⟨T, my, B⟩ := y
 simp only at hx hy
 subst hx; subst hy
 have zx := z.res _ (.head _)
 have zy := z.res _ (.tail _ (.head _))
 rw [show R ++ [(⟨S, true, A⟩ : Rs), ⟨T, true, B⟩] = R ++ [⟨S, true, A⟩] ++ [⟨T, true, B⟩] from by simp]
 exact d.call2 z.kb S T A B zx.1 zy.1 zx.2.1 zy.2.1 (fun b hb => ⟨(zx.2.2.2.1 rfl b hb).resolve_left fun h => h, zx.2.2.1 b hb⟩) (fun b hb => ⟨(zy.2.2.2.1 rfl b hb).resolve_left fun h => h, zy.2.2.1 b hb⟩) (fun b h1 h2 => by
  have := z.dj
  rw [List.pairwise_cons] at this
  exact this.1 _ (.head _) rfl b h1 h2)
theorem l5Copy_run {base : Nat} {h : AH} {a : Option Addr} {w : List Int} (hs : Sl h a (iv .i64 w)) (hl : w.length ≤ 1048576 * 4) (hb : base ≤ h.length) :
  ∃ a' h', run (Et base) 69 [.agg #[.slice a w.length w.length]] h = some (.agg #[.slice a' w.length w.length], h') ∧ Own base 3 h' a' (iv .i64 w) ∧ KB NoB h h' ∧ ∀ b, blk a' b → h.length ≤ b := by
 have d := Hs.start hb
 suffices W : Wp (run (Et base) 69 [.agg #[.slice a w.length w.length]] h) fun o => ∃ a', o.1 = .agg #[.slice a' w.length w.length] ∧ Hs base NoB h o.2 [] [rW base a' w] by
  obtain ⟨⟨o1, o2⟩, e, a', y1, d⟩ := W
  simp only at y1 d
  subst y1
  exact ⟨a', o2, e, d.rs (i := 0) rfl, d.kb, fun b hb => (d.rfr (i := 0) rfl rfl b hb).resolve_left fun h => h⟩
 refine W.of (fun r hx => Am.r69 hx) ?_
 ((try simp only [n1, n2, n3, n4, n5, n6] at d); (with_reducible repeat first | refine W.a1 d ?_ | refine W.a2 ?_ | refine W.a3 ?_ | refine W.bo ?_ | refine W.a5 d fun hw d lw kw => ?_ | refine W.a6 d ?_ | refine W.a7 ?_ | refine W.a8 ?_); (refine W.nD d fun h1 d _ kh1 => ?_); (with_reducible repeat first | refine W.a1 d ?_ | refine W.a2 ?_ | refine W.a3 ?_ | refine W.bo ?_ | refine W.a5 d fun hw d lw kw => ?_ | refine W.a6 d ?_ | refine W.a7 ?_ | refine W.a8 ?_); (refine W.nD d fun h2 d _ kh2 => ?_); (with_reducible repeat first | refine W.a1 d ?_ | refine W.a2 ?_ | refine W.a3 ?_ | refine W.bo ?_ | refine W.a5 d fun hw d lw kw => ?_ | refine W.a6 d ?_ | refine W.a7 ?_ | refine W.a8 ?_); (refine W.nD d fun h3 d _ kh3 => ?_); (with_reducible repeat first | refine W.a1 d ?_ | refine W.a2 ?_ | refine W.a3 ?_ | refine W.bo ?_ | refine W.a5 d fun hw d lw kw => ?_ | refine W.a6 d ?_ | refine W.a7 ?_ | refine W.a8 ?_))
 obtain ⟨a2, h4, e4, d⟩ := d.copyG (t := 3) (bytes := 8) (raw_ivs (hs.keepN d.kb)) (by simp) hl (by omega)
 refine W.bs e4 ?_
 ((try simp only [n1, n2, n3, n4, n5, n6] at d); (with_reducible repeat first | refine W.a1 d ?_ | refine W.a2 ?_ | refine W.a3 ?_ | refine W.bo ?_ | refine W.a5 d fun hw d lw kw => ?_ | refine W.a6 d ?_ | refine W.a7 ?_ | refine W.a8 ?_))
 exact W.ret ⟨a2, rfl, d.takeD 0⟩
def PutO (base F f : Nat) : Prop := ∀ (h : AH) (p : Nat → Prop) (t : Tm) (cs : List Value) (w : List Int) (ats : List ByteArray) (a aa : Option Addr), TmR h p f t cs → (∀ b, p b → b < h.length) → Sl h a (iv .i64 w) → Sl h aa (stV ats) → w.length ≤ 1048576 → ats.length ≤ 1048576 → base ≤ h.length →
  ∃ a' aa' h', run (Et base) F [.agg #[.slice a w.length w.length], .slice aa ats.length ats.length, .agg cs.toArray] h = some (.tuple #[.agg #[.slice a' (putT 0 2000 f w ats t).1.1.length (putT 0 2000 f w ats t).1.1.length], .slice aa' (putT 0 2000 f w ats t).1.2.length (putT 0 2000 f w ats t).1.2.length, .int .i64 (putT 0 2000 f w ats t).2.1, .bool (putT 0 2000 f w ats t).2.2], h') ∧ Hs base NoB h h' [] [rW base a' (putT 0 2000 f w ats t).1.1, rSt base aa' (putT 0 2000 f w ats t).1.2]
theorem implPut_run {base f : Nat} : PutO base 18 f := by
 intro h p t cs w ats a aa hm hp hs has hwl hal hb
 have d := Hs.start hb
 suffices W : Wp (run (Et base) 18 [.agg #[.slice a w.length w.length], .slice aa ats.length ats.length, .agg cs.toArray] h) fun o => ∃ a' aa', o.1 = .tuple #[.agg #[.slice a' (putT 0 2000 f w ats t).1.1.length (putT 0 2000 f w ats t).1.1.length], .slice aa' (putT 0 2000 f w ats t).1.2.length (putT 0 2000 f w ats t).1.2.length, .int .i64 (putT 0 2000 f w ats t).2.1, .bool (putT 0 2000 f w ats t).2.2] ∧ Hs base NoB h o.2 [] [rW base a' (putT 0 2000 f w ats t).1.1, rSt base aa' (putT 0 2000 f w ats t).1.2] by
  obtain ⟨⟨o1, o2⟩, e, a', aa', y1, y2⟩ := W
  simp only at y1 y2
  subst y1
  exact ⟨a', aa', o2, e, y2⟩
 obtain ⟨k, n, s, al, m, rfl⟩ := hm.form
 refine W.of (fun r hx => Am.r18 hx) ?_
 ((try simp only [n1, n2, n3, n4, n5, n6] at d); (with_reducible repeat first | refine W.a1 d ?_ | refine W.a2 ?_ | refine W.a3 ?_ | refine W.bo ?_ | refine W.a5 d fun hw d lw kw => ?_ | refine W.a6 d ?_ | refine W.a7 ?_ | refine W.a8 ?_); (refine W.nD d fun h1 d _ kh1 => ?_); (with_reducible repeat first | refine W.a1 d ?_ | refine W.a2 ?_ | refine W.a3 ?_ | refine W.bo ?_ | refine W.a5 d fun hw d lw kw => ?_ | refine W.a6 d ?_ | refine W.a7 ?_ | refine W.a8 ?_); (refine W.nD d fun h2 d _ kh2 => ?_); (with_reducible repeat first | refine W.a1 d ?_ | refine W.a2 ?_ | refine W.a3 ?_ | refine W.bo ?_ | refine W.a5 d fun hw d lw kw => ?_ | refine W.a6 d ?_ | refine W.a7 ?_ | refine W.a8 ?_); (refine W.nD d fun h3 d _ kh3 => ?_); (with_reducible repeat first | refine W.a1 d ?_ | refine W.a2 ?_ | refine W.a3 ?_ | refine W.bo ?_ | refine W.a5 d fun hw d lw kw => ?_ | refine W.a6 d ?_ | refine W.a7 ?_ | refine W.a8 ?_))
 obtain ⟨a', aa', h4, e4, z⟩ := implPutT_run (base := base) (fr := 0) (most := 2000) (hm.keep d.kb (fun _ _ h => h)) (fun b hb => Nat.lt_of_lt_of_le (hp b hb) d.kb.1) (hs.keepN d.kb) (has.keepN d.kb) hwl hal (by omega) (by omega) d.ge
 refine W.bs e4 ?_
 have d := d.call2R z rfl rfl
 simp only [List.nil_append] at d
 generalize putT 0 2000 f w ats t = q at d ⊢
 ((try simp only [n1, n2, n3, n4, n5, n6] at d); (with_reducible repeat first | refine W.a1 d ?_ | refine W.a2 ?_ | refine W.a3 ?_ | refine W.bo ?_ | refine W.a5 d fun hw d lw kw => ?_ | refine W.a6 d ?_ | refine W.a7 ?_ | refine W.a8 ?_))
 exact W.ret ⟨a', aa', rfl, d.takeD 0⟩
theorem putT_yes {fr most : Int} {f : Nat} {w : List Int} {ats : List ByteArray} {t : Tm} (h : roomT most f w t = true) : putT fr most f w ats t = if (pt fr f (w, ats) t).2.2 = true then ((pt fr f (w, ats) t).1, (pt fr f (w, ats) t).2.1, true) else ((w, ats), 0, false) := by
 unfold putT
 rw [h, Bool.true_and]
theorem roomT_spec {most : Int} {f : Nat} {w : List Int} {t : Tm} : (if (!tOk f t) = true then true else decide ((w.length : Int) + needT f t > most)) = !roomT most f w t := by
 unfold roomT
 cases tOk f t with
 | false => rfl
 | true =>
  by_cases c2 : (w.length : Int) + needT f t ≤ most
  ·simp only [Bool.not_true, Bool.false_eq_true, if_false, Bool.true_and]
   rw [decide_eq_false (by omega), decide_eq_true c2]
   rfl
  ·simp only [Bool.not_true, Bool.false_eq_true, if_false, Bool.true_and]
   rw [decide_eq_true (by omega), decide_eq_false c2]
   rfl
theorem specPut_run {base f : Nat} : PutO base 14 f := by
 intro h p t cs w ats a aa hm hp hs has hwl hal hb
 have d := Hs.start hb
 have d := d.inp p (fun y => TmR y p f t cs) hm (fun U y y' ky hs x => TmR.keep ky hs _ _ _ x) hp (by simp) rfl
 simp only [List.nil_append] at d
 suffices W : Wp (run (Et base) 14 [.agg #[.slice a w.length w.length], .slice aa ats.length ats.length, .agg cs.toArray] h) fun o => ∃ a' aa', o.1 = .tuple #[.agg #[.slice a' (putT 0 2000 f w ats t).1.1.length (putT 0 2000 f w ats t).1.1.length], .slice aa' (putT 0 2000 f w ats t).1.2.length (putT 0 2000 f w ats t).1.2.length, .int .i64 (putT 0 2000 f w ats t).2.1, .bool (putT 0 2000 f w ats t).2.2] ∧ Hs base NoB h o.2 [] [rW base a' (putT 0 2000 f w ats t).1.1, rSt base aa' (putT 0 2000 f w ats t).1.2] by
  obtain ⟨⟨o1, o2⟩, e, a', aa', y1, y2⟩ := W
  simp only at y1 y2
  subst y1
  exact ⟨a', aa', o2, e, y2⟩
 cases f with
 | zero => exact hm.elim
 | succ f =>
 obtain ⟨k, n, s, l⟩ := t
 have hm0 := hm
 obtain ⟨al, rfl, hts, hsz, hln⟩ := hm.parts
 have hnd : tOk (f + 1) (.mk k n s l) = true → needT (f + 1) (.mk k n s l) ≤ 4100 := fun h => (Wf.of h).need
 refine W.of (fun r hx => Am.r14 hx) ?_
 ((try simp only [n1, n2, n3, n4, n5, n6] at d); (with_reducible repeat first | refine W.a1 d ?_ | refine W.a2 ?_ | refine W.a3 ?_ | refine W.bo ?_ | refine W.a5 d fun hw d lw kw => ?_ | refine W.a6 d ?_ | refine W.a7 ?_ | refine W.a8 ?_); (refine W.nD d fun h1 d _ kh1 => ?_); (with_reducible repeat first | refine W.a1 d ?_ | refine W.a2 ?_ | refine W.a3 ?_ | refine W.bo ?_ | refine W.a5 d fun hw d lw kw => ?_ | refine W.a6 d ?_ | refine W.a7 ?_ | refine W.a8 ?_); (refine W.nD d fun h2 d _ kh2 => ?_); (with_reducible repeat first | refine W.a1 d ?_ | refine W.a2 ?_ | refine W.a3 ?_ | refine W.bo ?_ | refine W.a5 d fun hw d lw kw => ?_ | refine W.a6 d ?_ | refine W.a7 ?_ | refine W.a8 ?_); (refine W.nD d fun h3 d _ kh3 => ?_); (with_reducible repeat first | refine W.a1 d ?_ | refine W.a2 ?_ | refine W.a3 ?_ | refine W.bo ?_ | refine W.a5 d fun hw d lw kw => ?_ | refine W.a6 d ?_ | refine W.a7 ?_ | refine W.a8 ?_))
 obtain ⟨a4, h4, e4, o4, k4, f4⟩ := l5Copy_run (base := base) (hs.keepN d.kb) (by omega) d.ge
 refine W.bs e4 ?_
 have d := d.call k4 (blk a4) (fun y => Own base 3 y a4 (iv .i64 w)) o4 (fun U y y' k hs x => x.keep k hs) (fun i hi => ⟨f4 i hi, (o4.lt hi).2⟩)
 ((try simp only [n1, n2, n3, n4, n5, n6] at d); (with_reducible repeat first | refine W.a1 d ?_ | refine W.a2 ?_ | refine W.a3 ?_ | refine W.bo ?_ | refine W.a5 d fun hw d lw kw => ?_ | refine W.a6 d ?_ | refine W.a7 ?_ | refine W.a8 ?_); (refine W.nD d fun h5 d _ kh5 => ?_); (with_reducible repeat first | refine W.a1 d ?_ | refine W.a2 ?_ | refine W.a3 ?_ | refine W.bo ?_ | refine W.a5 d fun hw d lw kw => ?_ | refine W.a6 d ?_ | refine W.a7 ?_ | refine W.a8 ?_); (refine W.nD d fun h6 d _ kh6 => ?_); (with_reducible repeat first | refine W.a1 d ?_ | refine W.a2 ?_ | refine W.a3 ?_ | refine W.bo ?_ | refine W.a5 d fun hw d lw kw => ?_ | refine W.a6 d ?_ | refine W.a7 ?_ | refine W.a8 ?_))
 obtain ⟨a7, h7, e7, d⟩ := d.copyG (t := 9) (bytes := 16) (raw_st (has.keepN d.kb)) (by rw [stV_len]) (by omega) (by omega)
 refine W.bs e7 ?_
 ((try simp only [n1, n2, n3, n4, n5, n6] at d); (with_reducible repeat first | refine W.a1 d ?_ | refine W.a2 ?_ | refine W.a3 ?_ | refine W.bo ?_ | refine W.a5 d fun hw d lw kw => ?_ | refine W.a6 d ?_ | refine W.a7 ?_ | refine W.a8 ?_); (refine W.nD d fun h8 d _ kh8 => ?_); (with_reducible repeat first | refine W.a1 d ?_ | refine W.a2 ?_ | refine W.a3 ?_ | refine W.bo ?_ | refine W.a5 d fun hw d lw kw => ?_ | refine W.a6 d ?_ | refine W.a7 ?_ | refine W.a8 ?_))
 apply W.jb (if (!tOk (f + 1) (.mk k n s l)) = true then true else decide ((w.length : Int) + (needT (f + 1) (.mk k n s l) : Int) > 2000)) d
 ·((try simp only [n1, n2, n3, n4, n5, n6] at d); (with_reducible repeat first | refine W.a1 d ?_ | refine W.a2 ?_ | refine W.a3 ?_ | refine W.bo ?_ | refine W.a5 d fun hw d lw kw => ?_ | refine W.a6 d ?_ | refine W.a7 ?_ | refine W.a8 ?_))
  obtain ⟨h9, e9, k9⟩ := specTermOk_run (base := base) (hm0.keep d.kb (fun _ _ h => h)) d.ge
  refine W.bs e9 ?_
  have dk := d
  have d := d.kN k9
  ((try simp only [n1, n2, n3, n4, n5, n6] at d); (with_reducible repeat first | refine W.a1 d ?_ | refine W.a2 ?_ | refine W.a3 ?_ | refine W.bo ?_ | refine W.a5 d fun hw d lw kw => ?_ | refine W.a6 d ?_ | refine W.a7 ?_ | refine W.a8 ?_))
  refine W.ite (fun c => ?_) (fun c => ?_)
  ·rw [if_pos c]
   exact W.lb rfl rfl k9
  rw [if_neg c]
  have hto : tOk (f + 1) (.mk k n s l) = true := by simpa using c
  have hnd := hnd hto
  ((try simp only [n1, n2, n3, n4, n5, n6] at d); (with_reducible repeat first | refine W.a1 d ?_ | refine W.a2 ?_ | refine W.a3 ?_ | refine W.bo ?_ | refine W.a5 d fun hw d lw kw => ?_ | refine W.a6 d ?_ | refine W.a7 ?_ | refine W.a8 ?_))
  obtain ⟨h10, e10, k10⟩ := specNeed_run (base := base) (f + 1) h9 p _ _ (hm0.keep d.kb (fun _ _ h => h)) (Wf.of hto) d.ge
  refine W.bs e10 ?_
  ((try simp only [n1, n2, n3, n4, n5, n6] at d); (with_reducible repeat first | refine W.a1 d ?_ | refine W.a2 ?_ | refine W.a3 ?_ | refine W.bo ?_ | refine W.a5 d fun hw d lw kw => ?_ | refine W.a6 d ?_ | refine W.a7 ?_ | refine W.a8 ?_))
  have d := d.kN k10
  ((try simp only [n1, n2, n3, n4, n5, n6] at d); (with_reducible repeat first | refine W.a1 d ?_ | refine W.a2 ?_ | refine W.a3 ?_ | refine W.bo ?_ | refine W.a5 d fun hw d lw kw => ?_ | refine W.a6 d ?_ | refine W.a7 ?_ | refine W.a8 ?_))
  rw [w64i (n := (w.length : Int) + (needT (f + 1) (.mk k n s l) : Int)) (by omega) (by omega)]
  exact W.lb rfl rfl (kN k9 k10)
 intro h9 d n9
 rw [roomT_spec]
 ((try simp only [n1, n2, n3, n4, n5, n6] at d); (with_reducible repeat first | refine W.a1 d ?_ | refine W.a2 ?_ | refine W.a3 ?_ | refine W.bo ?_ | refine W.a5 d fun hw d lw kw => ?_ | refine W.a6 d ?_ | refine W.a7 ?_ | refine W.a8 ?_))
 refine W.ite (fun c => ?_) (fun c => ?_)
 ·have c : roomT 2000 (f + 1) w (.mk k n s l) = false := by simpa using c
  rw [putT_no c]
  ((try simp only [n1, n2, n3, n4, n5, n6] at d); (with_reducible repeat first | refine W.a1 d ?_ | refine W.a2 ?_ | refine W.a3 ?_ | refine W.bo ?_ | refine W.a5 d fun hw d lw kw => ?_ | refine W.a6 d ?_ | refine W.a7 ?_ | refine W.a8 ?_))
  have d := ((d.frontR (Del.at (i := 2) rfl)).frontR (Del.at (i := 2) rfl)).takeR 2
  exact W.ret ⟨a4, a7, rfl, d.takeD 0⟩
 have c : roomT 2000 (f + 1) w (.mk k n s l) = true := by simpa using c
 rw [putT_yes c]
 unfold roomT at c
 rw [Bool.and_eq_true] at c
 obtain ⟨hto, hrm⟩ := c
 have hrm := of_decide_eq_true hrm
 have hwf := Wf.of hto
 ((try simp only [n1, n2, n3, n4, n5, n6] at d); (with_reducible repeat first | refine W.a1 d ?_ | refine W.a2 ?_ | refine W.a3 ?_ | refine W.bo ?_ | refine W.a5 d fun hw d lw kw => ?_ | refine W.a6 d ?_ | refine W.a7 ?_ | refine W.a8 ?_))
 have d := d.front (Del.at (i := 1) rfl)
 simp only [n5, n6] at d
 have d1 := Hs.part (D1 := [_, _]) (R1 := [_, _, _]) (R2 := []) d
 refine W.wb (sput_run (base := base) (f + 1) _ _ p _ _ w ats a4 a7 _ _ _ hwf (by omega) hal d1) ?_
 rintro ⟨u, h10⟩ ⟨a', aa', y1, d2⟩
 simp only at y1 d2
 subst y1
 have d := Hs.back (D1 := [_, _]) (R1 := [_, _, _]) (R2 := []) d d2 (imP rfl rfl)
 clear d1 d2
 generalize pt 0 (f + 1) (w, ats) (.mk k n s l) = z at d ⊢
 ((try simp only [n1, n2, n3, n4, n5, n6] at d); (with_reducible repeat first | refine W.a1 d ?_ | refine W.a2 ?_ | refine W.a3 ?_ | refine W.bo ?_ | refine W.a5 d fun hw d lw kw => ?_ | refine W.a6 d ?_ | refine W.a7 ?_ | refine W.a8 ?_))
 refine W.ite (fun cb => ?_) (fun cb => ?_)
 ·have cb : z.2.2 = false := by simpa using cb
  rw [cb, if_neg (by decide)]
  ((try simp only [n1, n2, n3, n4, n5, n6] at d); (with_reducible repeat first | refine W.a1 d ?_ | refine W.a2 ?_ | refine W.a3 ?_ | refine W.bo ?_ | refine W.a5 d fun hw d lw kw => ?_ | refine W.a6 d ?_ | refine W.a7 ?_ | refine W.a8 ?_))
  obtain ⟨a11, h11, e11, o11, k11, f11⟩ := l5Copy_run (base := base) (hs.keepN d.kb) (by omega) d.ge
  refine W.bs e11 ?_
  have d := d.call k11 (blk a11) (fun y => Own base 3 y a11 (iv .i64 w)) o11 (fun U y y' k hs x => x.keep k hs) (fun i hi => ⟨f11 i hi, (o11.lt hi).2⟩)
  ((try simp only [n1, n2, n3, n4, n5, n6] at d); (with_reducible repeat first | refine W.a1 d ?_ | refine W.a2 ?_ | refine W.a3 ?_ | refine W.bo ?_ | refine W.a5 d fun hw d lw kw => ?_ | refine W.a6 d ?_ | refine W.a7 ?_ | refine W.a8 ?_); (refine W.nD d fun h12 d _ kh12 => ?_); (with_reducible repeat first | refine W.a1 d ?_ | refine W.a2 ?_ | refine W.a3 ?_ | refine W.bo ?_ | refine W.a5 d fun hw d lw kw => ?_ | refine W.a6 d ?_ | refine W.a7 ?_ | refine W.a8 ?_))
  obtain ⟨a13, h13, e13, d⟩ := d.copyG (t := 9) (bytes := 16) (raw_st (has.keepN d.kb)) (by rw [stV_len]) (by omega) (by omega)
  refine W.bs e13 ?_
  ((try simp only [n1, n2, n3, n4, n5, n6] at d); (with_reducible repeat first | refine W.a1 d ?_ | refine W.a2 ?_ | refine W.a3 ?_ | refine W.bo ?_ | refine W.a5 d fun hw d lw kw => ?_ | refine W.a6 d ?_ | refine W.a7 ?_ | refine W.a8 ?_))
  have d := ((d.frontR (Del.at (i := 4) rfl)).frontR (Del.at (i := 4) rfl)).takeR 2
  exact W.ret ⟨a11, a13, rfl, d.takeD 0⟩
 ·have cb : z.2.2 = true := by simpa using cb
  rw [cb, if_pos rfl]
  ((try simp only [n1, n2, n3, n4, n5, n6] at d); (with_reducible repeat first | refine W.a1 d ?_ | refine W.a2 ?_ | refine W.a3 ?_ | refine W.bo ?_ | refine W.a5 d fun hw d lw kw => ?_ | refine W.a6 d ?_ | refine W.a7 ?_ | refine W.a8 ?_))
  have d := ((d.frontR (Del.at (i := 2) rfl)).frontR (Del.at (i := 2) rfl)).takeR 2
  exact W.ret ⟨a', aa', rfl, d.takeD 0⟩
end Go.Proofs.Ytjmkbglnjklbcaa.Am
set_option linter.unusedSimpArgs false
set_option linter.unusedVariables false
namespace Go.Proofs.Ytjmkbglnjklbcaa.Am
open Go Go.RowKit
def marksS (k n : Nat) : List ByteArray := (List.range n).map fun i => mt ((k + i : Nat) : Int)
theorem marksS_length (k n : Nat) : (marksS k n).length = n := by simp [marksS]
theorem marksS_get {k n i : Nat} (h : i < (marksS k n).length) : (marksS k n)[i] = mt ((k + i : Nat) : Int) := by simp [marksS]
theorem markStringS_loop {base : Nat} {a : Option Addr} {n k : Nat} (hn : n ≤ 1000000000) (hk : k ≤ 1000000000) : ∀ (d i : Nat) (h : AH), i + d = n → ∀ rest : List ByteArray, rest.length = d → Own base 9 h a (stV (marksS k i ++ rest)) →
  ∃ h', loopL (B23_0 base) [some (.slice a n n), some (.int .i64 ((k + i : Nat) : Int)), some (.int .i64 (i : Int))] h = some (2, [some (.int .i64 ((k + n : Nat) : Int))], h') ∧ Own base 9 h' a (stV (marksS k n)) ∧ KB (blk a) h h' := by
 intro d
 induction d with
 | zero =>
  intro i h hi rest hr ho
  have e : i = n := by omega
  subst e
  rw [List.eq_nil_of_length_eq_zero hr, List.append_nil] at ho
  refine ⟨h, loop_off (by decide) ?_, ho, KB.refl _ _⟩
  rw [B23_0_eq]
  exact ifF (by simp) rfl
 | succ d ih =>
  intro i h hi rest hr ho
  match rest, hr with
  | z :: rest, hr =>
   have hl : (stV (marksS k i ++ z :: rest)).length = n := by
    rw [stV_len, List.length_append, marksS_length]; simp only [List.length_cons] at hr ⊢; omega
   obtain ⟨h1, e1, k1⟩ := markText_run (base := base) (h := h) (k := ((k + i : Nat) : Int)) (by omega)
   obtain ⟨ad2, h', g1, g2, g3, g4, g5⟩ := (ho.keepN k1).wr (i := i) (new := [.string (mt ((k + i : Nat) : Int))]) (by rw [hl]; simp; omega) (by simp)
   have e : setAt (stV (marksS k i ++ z :: rest)) i [.string (mt ((k + i : Nat) : Int))] = stV (marksS k (i + 1) ++ rest) := by
    have ea : ∀ x y : List ByteArray, stV (x ++ y) = stV x ++ stV y := fun x y => List.map_append
    have el : (stV (marksS k i)).length = i := by rw [stV_len, marksS_length]
    rw [ea]
    simp only [setAt, List.length_singleton]
    have e2 : (stV (marksS k i) ++ stV (z :: rest)).take i = stV (marksS k i) := by
     rw [List.take_append_of_le_length (by omega), List.take_of_length_le (by omega)]
    have e3 : (stV (marksS k i) ++ stV (z :: rest)).drop (i + 1) = stV rest := by
     rw [List.drop_append, el]
     have : i + 1 - i = 1 := by omega
     rw [this, List.drop_of_length_le (by omega)]
     rfl
    rw [e2, e3, ea]
    simp [stV, marksS, List.range_succ]
   rw [e] at g3
   obtain ⟨h'', k2, k3, k4⟩ := ih (i + 1) h' (by omega) rest (by simpa using hr) g3
   refine ⟨h'', loop_on ?_ k2, k3, KB.trans (k1.mono fun _ _ h => h.elim) (KB.trans g4 k4 (fun _ _ h => h) (fun _ _ h => h)) (fun _ _ h => h) (fun _ _ h => h)⟩
   rw [B23_0_eq]
   subst g1
   refine ifT (decide_eq_true (by omega)) (bs e1 (bT rfl (ifT (by omega) (bs rfl (bs (by rw [show Int.toNat (i : Int) * 1 = i from by simp]; exact g2) ?_)))))
   rw [w64i (n := ((k + i : Nat) : Int) + 1) (by omega) (by omega), w64i (n := (i : Int) + 1) (by omega) (by omega)]
   rfl
theorem markStringS_run {base : Nat} {h : AH} {a : Option Addr} {l : List ByteArray} {k : Nat} (ho : Own base 9 h a (stV l)) (hn : l.length ≤ 1000000000) (hk : k ≤ 1000000000) :
  ∃ h', run (Et base) 23 [.slice a l.length l.length, .int .i64 (k : Int)] h = some (.int .i64 ((k + l.length : Nat) : Int), h') ∧ Own base 9 h' a (stV (marksS k l.length)) ∧ KB (blk a) h h' := by
 obtain ⟨h', m1, m2, m3⟩ := markStringS_loop (base := base) (a := a) (k := k) hn hk l.length 0 h (by omega) l rfl (by simpa [marksS] using ho)
 refine ⟨h', Am.r23 (bs m1 (ifT rfl (bI rfl rfl))), m2, m3⟩
theorem heldStringS_loop {base : Nat} {a : Option Addr} {k n : Nat} (hn : n ≤ 1000000000) (hk : k ≤ 1000000000) : ∀ (d i : Nat) (h : AH), i + d = n → Sl h a (stV (marksS k n)) →
  ∃ h', loopL (B26_0 base) [some (.slice a n n), some (.int .i64 ((k + i : Nat) : Int)), some (.int .i64 (i : Int))] h = some (2, [some (.int .i64 ((k + n : Nat) : Int))], h') ∧ KB NoB h h' := by
 intro d
 induction d with
 | zero =>
  intro i h hi hs
  have e : i = n := by omega
  subst e
  refine ⟨h, loop_off (by decide) ?_, KB.refl _ _⟩
  rw [B26_0_eq]
  exact ifF (by simp) rfl
 | succ d ih =>
  intro i h hi hs
  have hlt : i < (marksS k n).length := by rw [marksS_length]; omega
  obtain ⟨ad, rfl, g⟩ := str_at hs hlt
  obtain ⟨h1, e1, k1⟩ := markText_run (base := base) (h := h) (k := ((k + i : Nat) : Int)) (by omega)
  obtain ⟨h2, e2, k2⟩ := ih (i + 1) h1 (by omega) (hs.keepN k1)
  refine ⟨h2, loop_on ?_ e2, kN k1 k2⟩
  rw [B26_0_eq]
  have hi1 : Int.toNat (i : Int) * 1 = i := by simp
  rw [hi1]
  refine ifT (decide_eq_true (by omega)) (ifT (by omega) (bs rfl (bT g (bs e1 (bT rfl ?_)))))
  rw [gate_pos (same_keep k1 g)]
  refine ifF (by rw [marksS_get]; simp) ?_
  rw [w64i (n := ((k + i : Nat) : Int) + 1) (by omega) (by omega), w64i (n := (i : Int) + 1) (by omega) (by omega)]
  rfl
theorem heldStringS_run {base : Nat} {h : AH} {a : Option Addr} {k n : Nat} (hx : Sl h a (stV (marksS k n))) (hn : n ≤ 1000000000) (hk : k ≤ 1000000000) :
  ∃ h', run (Et base) 26 [.slice a n n, .int .i64 (k : Int)] h = some (.int .i64 ((k + n : Nat) : Int), h') ∧ KB NoB h h' := by
 obtain ⟨h', m1, m2⟩ := heldStringS_loop (base := base) (k := k) hn hk n 0 h (by omega) hx
 exact ⟨h', Am.r26 (bs m1 (ifF (show ¬ (2 : Nat) = 1 by decide) (ifT rfl (bI rfl rfl)))), m2⟩
theorem szHeap_run {base : Nat} {h : AH} {a : Option Addr} {n : Nat} {left : Int} (hn : n ≤ 9223372036854775807) (hb : base ≤ h.length) (l0 : 0 ≤ left) (l1 : left ≤ 1048576) :
  ∃ z h', run (Et base) 11 [.agg #[.slice a n n], .int .i64 left] h = some (.int .i64 z, h') ∧ KB NoB h h' ∧ z ≤ left ∧ -1 ≤ z ∧ (¬ z < 0 → z + (n : Int) ≤ left) := by
 have d := Hs.start hb
 suffices W : Wp (run (Et base) 11 [.agg #[.slice a n n], .int .i64 left] h) fun o => ∃ z, o.1 = .int .i64 z ∧ KB NoB h o.2 ∧ z ≤ left ∧ -1 ≤ z ∧ (¬ z < 0 → z + (n : Int) ≤ left) by
  obtain ⟨⟨o1, o2⟩, e, z, y1, y2⟩ := W
  simp only at y1 y2
  subst y1
  exact ⟨z, o2, e, y2⟩
 refine W.of (fun r hx => Am.r11 hx) ?_
 ((try simp only [n1, n2, n3, n4, n5, n6] at d); (with_reducible repeat first | refine W.a1 d ?_ | refine W.a2 ?_ | refine W.a3 ?_ | refine W.bo ?_ | refine W.a5 d fun hw d lw kw => ?_ | refine W.a6 d ?_ | refine W.a7 ?_ | refine W.a8 ?_); (refine W.nD d fun p1 d _ kp1 => ?_); (with_reducible repeat first | refine W.a1 d ?_ | refine W.a2 ?_ | refine W.a3 ?_ | refine W.bo ?_ | refine W.a5 d fun hw d lw kw => ?_ | refine W.a6 d ?_ | refine W.a7 ?_ | refine W.a8 ?_))
 obtain ⟨z1, e1, a1, a2, a3⟩ := szIntS_run (base := base) (h := p1) (a := a) (n := n) (left := left) hn l0 l1
 refine W.bs e1 ?_
 ((try simp only [n1, n2, n3, n4, n5, n6] at d); (with_reducible repeat first | refine W.a1 d ?_ | refine W.a2 ?_ | refine W.a3 ?_ | refine W.bo ?_ | refine W.a5 d fun hw d lw kw => ?_ | refine W.a6 d ?_ | refine W.a7 ?_ | refine W.a8 ?_))
 refine W.ite (fun c => W.ret ⟨-1, rfl, d.kb, by omega, by omega, fun h => absurd (by decide) h⟩) (fun c => ?_)
 exact W.ret ⟨z1, rfl, d.kb, a1, a2, a3⟩
theorem Hs.toHp {base : Nat} {V : Fp} {h0 h : AH} {D : Ds} {R : List Rs} {a : Option Addr} {l : List Int} (d : Hs base V h0 h D R) (h1 : l.length ≤ 1048576) (x : Sl h a (iv .i64 l)) :
  ∃ a' h', run (Et base) 15 [.agg #[.slice a l.length l.length]] h = some (.agg #[.slice a' l.length l.length], h') ∧ Hs base V h0 h' D (R ++ [rW base a' l]) ∧ KB NoB h h' := by
 have d0 := d
 have d := Hs.start d0.ge
 suffices W : Wp (run (Et base) 15 [.agg #[.slice a l.length l.length]] h) fun o => ∃ a', o.1 = .agg #[.slice a' l.length l.length] ∧ Hs base NoB h o.2 [] [rW base a' l] by
  obtain ⟨⟨o1, o2⟩, e, a', y1, z⟩ := W
  simp only at y1 z
  subst y1
  exact ⟨a', o2, e, d0.call z.kb _ _ (z.rs (i := 0) rfl) (fun U y y' ky hs x => x.keep ky hs) fun b hb => ⟨(z.rfr (i := 0) rfl rfl b hb).resolve_left fun h => h, z.rlt (i := 0) rfl b hb⟩, z.kb⟩
 refine W.of (fun r hx => Am.r15 hx) ?_
 ((try simp only [n1, n2, n3, n4, n5, n6] at d); (with_reducible repeat first | refine W.a1 d ?_ | refine W.a2 ?_ | refine W.a3 ?_ | refine W.bo ?_ | refine W.a5 d fun hw d lw kw => ?_ | refine W.a6 d ?_ | refine W.a7 ?_ | refine W.a8 ?_); (refine W.nD d fun p1 d _ kp1 => ?_); (with_reducible repeat first | refine W.a1 d ?_ | refine W.a2 ?_ | refine W.a3 ?_ | refine W.bo ?_ | refine W.a5 d fun hw d lw kw => ?_ | refine W.a6 d ?_ | refine W.a7 ?_ | refine W.a8 ?_); (refine W.nD d fun p2 d _ kp2 => ?_); (with_reducible repeat first | refine W.a1 d ?_ | refine W.a2 ?_ | refine W.a3 ?_ | refine W.bo ?_ | refine W.a5 d fun hw d lw kw => ?_ | refine W.a6 d ?_ | refine W.a7 ?_ | refine W.a8 ?_); (refine W.nD d fun p3 d _ kp3 => ?_); (with_reducible repeat first | refine W.a1 d ?_ | refine W.a2 ?_ | refine W.a3 ?_ | refine W.bo ?_ | refine W.a5 d fun hw d lw kw => ?_ | refine W.a6 d ?_ | refine W.a7 ?_ | refine W.a8 ?_))
 obtain ⟨a4, h4, e4, o4, k4, q4⟩ := toIntS_run (base := base) (x.keepN d.kb) h1 d.ge
 refine W.bs e4 ?_
 have d := d.call k4 (blk a4) (fun y => Own base 3 y a4 (iv .i64 l)) o4 (fun U y y' k hs x => x.keep k hs) (fun b hb => ⟨q4 b hb, (o4.lt hb).2⟩)
 ((try simp only [n1, n2, n3, n4, n5, n6] at d); (with_reducible repeat first | refine W.a1 d ?_ | refine W.a2 ?_ | refine W.a3 ?_ | refine W.bo ?_ | refine W.a5 d fun hw d lw kw => ?_ | refine W.a6 d ?_ | refine W.a7 ?_ | refine W.a8 ?_))
 exact W.ret ⟨a4, rfl, d.takeD 0⟩
theorem eqHeap_run {base : Nat} {h : AH} {a b : Option Addr} {l : List Int} (h1 : l.length ≤ 1048576 * 4) (x : Sl h a (iv .i64 l)) (y : Sl h b (iv .i64 l)) (hb : base ≤ h.length) :
  ∃ h', run (Et base) 19 [.agg #[.slice a l.length l.length], .agg #[.slice b l.length l.length]] h = some (.bool true, h') ∧ KB NoB h h' := by
 have d := Hs.start hb
 suffices W : Wp (run (Et base) 19 [.agg #[.slice a l.length l.length], .agg #[.slice b l.length l.length]] h) fun o => o.1 = .bool true ∧ KB NoB h o.2 by
  obtain ⟨⟨o1, o2⟩, e, y1, y2⟩ := W
  simp only at y1 y2
  subst y1
  exact ⟨o2, e, y2⟩
 refine W.of (fun r hx => Am.r19 hx) ?_
 ((try simp only [n1, n2, n3, n4, n5, n6] at d); (with_reducible repeat first | refine W.a1 d ?_ | refine W.a2 ?_ | refine W.a3 ?_ | refine W.bo ?_ | refine W.a5 d fun hw d lw kw => ?_ | refine W.a6 d ?_ | refine W.a7 ?_ | refine W.a8 ?_); (refine W.nD d fun p1 d _ kp1 => ?_); (with_reducible repeat first | refine W.a1 d ?_ | refine W.a2 ?_ | refine W.a3 ?_ | refine W.bo ?_ | refine W.a5 d fun hw d lw kw => ?_ | refine W.a6 d ?_ | refine W.a7 ?_ | refine W.a8 ?_); (refine W.nD d fun p2 d _ kp2 => ?_); (with_reducible repeat first | refine W.a1 d ?_ | refine W.a2 ?_ | refine W.a3 ?_ | refine W.bo ?_ | refine W.a5 d fun hw d lw kw => ?_ | refine W.a6 d ?_ | refine W.a7 ?_ | refine W.a8 ?_))
 refine W.bs (eqIntS_run (base := base) (x.keepN d.kb) (y.keepN d.kb) (by omega)) ?_
 ((try simp only [n1, n2, n3, n4, n5, n6] at d); (with_reducible repeat first | refine W.a1 d ?_ | refine W.a2 ?_ | refine W.a3 ?_ | refine W.bo ?_ | refine W.a5 d fun hw d lw kw => ?_ | refine W.a6 d ?_ | refine W.a7 ?_ | refine W.a8 ?_))
 refine W.ifF (by simp) ?_
 exact W.ret ⟨rfl, d.kb⟩
theorem markHeap_run {base : Nat} {h : AH} {a : Option Addr} {l : List Int} {k : Nat} (ho : Own base 3 h a (iv .i64 l)) (hn : l.length ≤ 1000000000) (hk : k ≤ 1000000000) (hb : base ≤ h.length) :
  ∃ h', run (Et base) 22 [.agg #[.slice a l.length l.length], .int .i64 (k : Int)] h = some (.int .i64 ((k + l.length : Nat) : Int), h') ∧ Own base 3 h' a (iv .i64 (marksI k l.length)) ∧ KB (blk a) h h' := by
 have d := Hs.start hb
 suffices W : Wp (run (Et base) 22 [.agg #[.slice a l.length l.length], .int .i64 (k : Int)] h) fun o => o.1 = .int .i64 ((k + l.length : Nat) : Int) ∧ Own base 3 o.2 a (iv .i64 (marksI k l.length)) ∧ KB (blk a) h o.2 by
  obtain ⟨⟨o1, o2⟩, e, y1, y2⟩ := W
  simp only at y1 y2
  subst y1
  exact ⟨o2, e, y2⟩
 refine W.of (fun r hx => Am.r22 hx) ?_
 ((try simp only [n1, n2, n3, n4, n5, n6] at d); (with_reducible repeat first | refine W.a1 d ?_ | refine W.a2 ?_ | refine W.a3 ?_ | refine W.bo ?_ | refine W.a5 d fun hw d lw kw => ?_ | refine W.a6 d ?_ | refine W.a7 ?_ | refine W.a8 ?_); (refine W.nD d fun p1 d _ kp1 => ?_); (with_reducible repeat first | refine W.a1 d ?_ | refine W.a2 ?_ | refine W.a3 ?_ | refine W.bo ?_ | refine W.a5 d fun hw d lw kw => ?_ | refine W.a6 d ?_ | refine W.a7 ?_ | refine W.a8 ?_))
 obtain ⟨h2, e2, o2, k2⟩ := markIntS_run (base := base) (k := k) (ho.keepN d.kb) (by omega) (by omega)
 refine W.bs e2 ?_
 ((try simp only [n1, n2, n3, n4, n5, n6] at d); (with_reducible repeat first | refine W.a1 d ?_ | refine W.a2 ?_ | refine W.a3 ?_ | refine W.bo ?_ | refine W.a5 d fun hw d lw kw => ?_ | refine W.a6 d ?_ | refine W.a7 ?_ | refine W.a8 ?_))
 exact W.ret ⟨rfl, o2, KB.trans d.kb k2 (fun _ _ h => h.elim) (fun _ _ h => h)⟩
theorem heldHeap_run {base : Nat} {h : AH} {a : Option Addr} {k n : Nat} (hx : Sl h a (iv .i64 (marksI k n))) (hn : n ≤ 1000000000) (hk : k ≤ 1000000000) (hb : base ≤ h.length) :
  ∃ h', run (Et base) 25 [.agg #[.slice a n n], .int .i64 (k : Int)] h = some (.int .i64 ((k + n : Nat) : Int), h') ∧ KB NoB h h' := by
 have d := Hs.start hb
 suffices W : Wp (run (Et base) 25 [.agg #[.slice a n n], .int .i64 (k : Int)] h) fun o => o.1 = .int .i64 ((k + n : Nat) : Int) ∧ KB NoB h o.2 by
  obtain ⟨⟨o1, o2⟩, e, y1, y2⟩ := W
  simp only at y1 y2
  subst y1
  exact ⟨o2, e, y2⟩
 refine W.of (fun r hx => Am.r25 hx) ?_
 ((try simp only [n1, n2, n3, n4, n5, n6] at d); (with_reducible repeat first | refine W.a1 d ?_ | refine W.a2 ?_ | refine W.a3 ?_ | refine W.bo ?_ | refine W.a5 d fun hw d lw kw => ?_ | refine W.a6 d ?_ | refine W.a7 ?_ | refine W.a8 ?_); (refine W.nD d fun p1 d _ kp1 => ?_); (with_reducible repeat first | refine W.a1 d ?_ | refine W.a2 ?_ | refine W.a3 ?_ | refine W.bo ?_ | refine W.a5 d fun hw d lw kw => ?_ | refine W.a6 d ?_ | refine W.a7 ?_ | refine W.a8 ?_))
 refine W.bs (heldIntS_run (base := base) (hx.keepN d.kb) (by omega) (by omega)) ?_
 ((try simp only [n1, n2, n3, n4, n5, n6] at d); (with_reducible repeat first | refine W.a1 d ?_ | refine W.a2 ?_ | refine W.a3 ?_ | refine W.bo ?_ | refine W.a5 d fun hw d lw kw => ?_ | refine W.a6 d ?_ | refine W.a7 ?_ | refine W.a8 ?_))
 refine W.ifF (by simp; omega) ?_
 exact W.ret ⟨rfl, d.kb⟩
end Go.Proofs.Ytjmkbglnjklbcaa.Am
set_option linter.unusedSimpArgs false
set_option linter.unusedVariables false
namespace Go.Proofs.Ytjmkbglnjklbcaa.Am
open Go Go.RowKit
theorem putT_len {fr most : Int} {f : Nat} {w : List Int} {ats : List ByteArray} {t : Tm} : ((putT fr most f w ats t).1.1.length : Int) ≤ max (w.length : Int) most ∧ (putT fr most f w ats t).1.2.length ≤ max ats.length 200 := by
 by_cases c : roomT most f w t = true
 ·rw [putT_yes c]
  unfold roomT at c
  rw [Bool.and_eq_true] at c
  have := of_decide_eq_true c.2
  obtain ⟨a, b⟩ := pt_ok (fr := fr) f t (Wf.of c.1) (w, ats)
  simp only at a b
  by_cases c2 : (pt fr f (w, ats) t).2.2 = true
  ·rw [if_pos c2]
   simp only
   omega
  ·rw [if_neg c2]
   simp only
   omega
 ·rw [putT_no (by simpa using c)]
  simp only
  omega
theorem Hs.toSt {base : Nat} {V : Fp} {h0 h : AH} {D : Ds} {R : List Rs} {aa : Option Addr} {ats : List ByteArray} (d : Hs base V h0 h D R) (h1 : ats.length ≤ 1048576) (x : Sl h aa (stV ats)) :
  ∃ a h', run (Et base) 16 [.slice aa ats.length ats.length] h = some (.slice a ats.length ats.length, h') ∧ Hs base V h0 h' D (R ++ [rSt base a ats]) ∧ KB NoB h h' := by
 obtain ⟨a, h', e, o1, k, q⟩ := toStringS_run (base := base) x h1 d.ge
 exact ⟨a, h', e, d.call k _ _ o1 (fun U y y' ky hs x => x.keep ky hs) q, k⟩
abbrev rTG (base : Nat) (S : Fp) (f : Nat) (t : Tm) (cs : List Value) : Rs := ⟨S, true, fun y => TmG base f S y t cs⟩
theorem Hs.toTm {base f : Nat} {V : Fp} {h0 h : AH} {D : Ds} {R : List Rs} {p : Nat → Prop} {k n : Int} {s : ByteArray} {l : List Tm} {a : Option Addr} (d : Hs base V h0 h D R) (x : TmR h p (f + 1) (.mk k n s l) (termV k n s a l.length)) (hB : TmB (f + 1) (.mk k n s l)) (hp : ∀ b, p b → b < h.length) :
  ∃ a' S h', run (Et base) 17 [.agg (termV k n s a l.length).toArray] h = some (.agg (termV k n s a' l.length).toArray, h') ∧ Hs base V h0 h' D (R ++ [rTG base S (f + 1) (.mk k n s l) (termV k n s a' l.length)]) ∧ KB NoB h h' := by
 obtain ⟨cs1, h', e, x7, k8⟩ := toTermG_run (base := base) (f + 1) _ p _ _ x hB d.ge hp
 obtain ⟨kk, nn, ss, aa, mm, rfl⟩ := x7.form
 obtain ⟨rfl, rfl, rfl, rfl⟩ := x7.eq
 exact ⟨aa, _, h', e, d.callP (TmG.kp _ _) k8 x7, k8⟩
theorem putTerm_law {base f : Nat} {h : AH} {p : Nat → Prop} {wa aa : Option Addr} {w : List Int} {ats : List ByteArray} {k n : Int} {s : ByteArray} {l : List Tm} {ta : Option Addr} (m1 : w.length ≤ maxLen) (m2 : ats.length ≤ 9223372036854775807) (hz : ∀ s ∈ ats, s.size ≤ maxLen) (xw : Sl h wa (iv .i64 w)) (xa : Sl h aa (stV ats)) (xt : TmR h p (f + 1) (.mk k n s l) (termV k n s ta l.length)) (hp : ∀ b, p b → b < h.length) (hb : base ≤ h.length) :
  Wp (run (Et base) 3 [.agg #[.slice wa w.length w.length], .slice aa ats.length ats.length, .agg (termV k n s ta l.length).toArray] h) fun r => r.1 = .bool true := by
 have d := Hs.start hb
 have d := d.inp p (fun y => TmR y p (f + 1) (.mk k n s l) (termV k n s ta l.length)) xt (fun U y y' ky hs x => TmR.keep ky hs _ _ _ x) hp (by simp) rfl
 simp only [List.nil_append] at d
 refine W.of (fun r hx => Am.r3 hx) ?_
 ((try simp only [n1, n2, n3, n4, n5, n6] at d); (with_reducible repeat first | refine W.a1 d ?_ | refine W.a2 ?_ | refine W.a3 ?_ | refine W.bo ?_ | refine W.a5 d fun hw d lw kw => ?_ | refine W.a6 d ?_ | refine W.a7 ?_ | refine W.a8 ?_); (refine W.nD d fun p1 d _ kp1 => ?_); (with_reducible repeat first | refine W.a1 d ?_ | refine W.a2 ?_ | refine W.a3 ?_ | refine W.bo ?_ | refine W.a5 d fun hw d lw kw => ?_ | refine W.a6 d ?_ | refine W.a7 ?_ | refine W.a8 ?_); (refine W.nD d fun p2 d _ kp2 => ?_); (with_reducible repeat first | refine W.a1 d ?_ | refine W.a2 ?_ | refine W.a3 ?_ | refine W.bo ?_ | refine W.a5 d fun hw d lw kw => ?_ | refine W.a6 d ?_ | refine W.a7 ?_ | refine W.a8 ?_))
 obtain ⟨z1, h1, e1, k1, a1, a2, a3⟩ := szHeap_run (base := base) (a := wa) (n := w.length) (left := 1048576) m1 d.ge (by omega) (by omega)
 have d := d.kN k1
 refine W.bs e1 ?_
 ((try simp only [n1, n2, n3, n4, n5, n6] at d); (with_reducible repeat first | refine W.a1 d ?_ | refine W.a2 ?_ | refine W.a3 ?_ | refine W.bo ?_ | refine W.a5 d fun hw d lw kw => ?_ | refine W.a6 d ?_ | refine W.a7 ?_ | refine W.a8 ?_))
 refine W.ite (fun c => W.ret rfl) (fun c1 => ?_)
 have c1 : ¬ z1 < 0 := by simpa using c1
 have a3 := a3 c1
 obtain ⟨z2, e2, b1, b2, b3⟩ := szStringS_run (base := base) (left := z1) m2 hz (xa.keepN d.kb) (by omega) (by omega)
 refine W.bs e2 ?_
 ((try simp only [n1, n2, n3, n4, n5, n6] at d); (with_reducible repeat first | refine W.a1 d ?_ | refine W.a2 ?_ | refine W.a3 ?_ | refine W.bo ?_ | refine W.a5 d fun hw d lw kw => ?_ | refine W.a6 d ?_ | refine W.a7 ?_ | refine W.a8 ?_))
 refine W.ite (fun c => W.ret rfl) (fun c2 => ?_)
 have c2 : ¬ z2 < 0 := by simpa using c2
 have b3 := b3 c2
 ((try simp only [n1, n2, n3, n4, n5, n6] at d); (with_reducible repeat first | refine W.a1 d ?_ | refine W.a2 ?_ | refine W.a3 ?_ | refine W.bo ?_ | refine W.a5 d fun hw d lw kw => ?_ | refine W.a6 d ?_ | refine W.a7 ?_ | refine W.a8 ?_))
 obtain ⟨z3, h3, e3, k3, g1, g2, g3⟩ := szTerm_run (base := base) (f + 1) _ p _ _ z2 (d.rs (i := 0) rfl) d.ge (d.rlt (i := 0) rfl) (by omega) (by omega)
 have d := d.kN k3
 refine W.bs e3 ?_
 ((try simp only [n1, n2, n3, n4, n5, n6] at d); (with_reducible repeat first | refine W.a1 d ?_ | refine W.a2 ?_ | refine W.a3 ?_ | refine W.bo ?_ | refine W.a5 d fun hw d lw kw => ?_ | refine W.a6 d ?_ | refine W.a7 ?_ | refine W.a8 ?_))
 refine W.ite (fun c => W.ret rfl) (fun c3 => ?_)
 have c3 : ¬ z3 < 0 := by simpa using c3
 obtain ⟨hB, hcn⟩ := g3 c3
 have hwl : w.length ≤ 1048576 := by omega
 have hal : ats.length ≤ 1048576 := by omega
 ((try simp only [n1, n2, n3, n4, n5, n6] at d); (with_reducible repeat first | refine W.a1 d ?_ | refine W.a2 ?_ | refine W.a3 ?_ | refine W.bo ?_ | refine W.a5 d fun hw d lw kw => ?_ | refine W.a6 d ?_ | refine W.a7 ?_ | refine W.a8 ?_))
 obtain ⟨wa1, h4, e4, d, _⟩ := d.toHp hwl (xw.keepN d.kb)
 refine W.bs e4 ?_
 ((try simp only [n1, n2, n3, n4, n5, n6] at d); (with_reducible repeat first | refine W.a1 d ?_ | refine W.a2 ?_ | refine W.a3 ?_ | refine W.bo ?_ | refine W.a5 d fun hw d lw kw => ?_ | refine W.a6 d ?_ | refine W.a7 ?_ | refine W.a8 ?_))
 obtain ⟨sa1, h5, e5, d, _⟩ := d.toSt hal (xa.keepN d.kb)
 refine W.bs e5 ?_
 ((try simp only [n1, n2, n3, n4, n5, n6] at d); (with_reducible repeat first | refine W.a1 d ?_ | refine W.a2 ?_ | refine W.a3 ?_ | refine W.bo ?_ | refine W.a5 d fun hw d lw kw => ?_ | refine W.a6 d ?_ | refine W.a7 ?_ | refine W.a8 ?_))
 obtain ⟨ta1, S1, h6, e6, d, _⟩ := d.toTm (d.rs (i := 0) rfl) hB (d.rlt (i := 0) rfl)
 refine W.bs e6 ?_
 ((try simp only [n1, n2, n3, n4, n5, n6] at d); (with_reducible repeat first | refine W.a1 d ?_ | refine W.a2 ?_ | refine W.a3 ?_ | refine W.bo ?_ | refine W.a5 d fun hw d lw kw => ?_ | refine W.a6 d ?_ | refine W.a7 ?_ | refine W.a8 ?_))
 obtain ⟨wq, sq, h7, e7, dq⟩ := specPut_run (base := base) (f := f + 1) h6 S1 (.mk k n s l) _ w ats wa1 sa1 (TmG.tmR (d.rs (i := 3) rfl)) (d.rlt (i := 3) rfl) (Own.sl (d.rs (i := 1) rfl)) (Own.sl (d.rs (i := 2) rfl)) hwl hal d.ge
 have d := d.call2R dq rfl rfl
 refine W.bs e7 ?_
 obtain ⟨hq1, hq2⟩ := putT_len (fr := 0) (most := 2000) (f := f + 1) (w := w) (ats := ats) (t := .mk k n s l)
 generalize hQ : putT 0 2000 (f + 1) w ats (.mk k n s l) = q at d hq1 hq2 ⊢
 have q1l : q.1.1.length ≤ 1048576 := by omega
 have q2l : q.1.2.length ≤ 1048576 := by omega
 ((try simp only [n1, n2, n3, n4, n5, n6] at d); (with_reducible repeat first | refine W.a1 d ?_ | refine W.a2 ?_ | refine W.a3 ?_ | refine W.bo ?_ | refine W.a5 d fun hw d lw kw => ?_ | refine W.a6 d ?_ | refine W.a7 ?_ | refine W.a8 ?_); (refine W.nD d fun w1 d _ kw1 => ?_); (with_reducible repeat first | refine W.a1 d ?_ | refine W.a2 ?_ | refine W.a3 ?_ | refine W.bo ?_ | refine W.a5 d fun hw d lw kw => ?_ | refine W.a6 d ?_ | refine W.a7 ?_ | refine W.a8 ?_))
 obtain ⟨wa2, h8, e8, d, _⟩ := d.toHp hwl (xw.keepN d.kb)
 refine W.bs e8 ?_
 ((try simp only [n1, n2, n3, n4, n5, n6] at d); (with_reducible repeat first | refine W.a1 d ?_ | refine W.a2 ?_ | refine W.a3 ?_ | refine W.bo ?_ | refine W.a5 d fun hw d lw kw => ?_ | refine W.a6 d ?_ | refine W.a7 ?_ | refine W.a8 ?_); (refine W.nD d fun w2 d _ kw2 => ?_); (with_reducible repeat first | refine W.a1 d ?_ | refine W.a2 ?_ | refine W.a3 ?_ | refine W.bo ?_ | refine W.a5 d fun hw d lw kw => ?_ | refine W.a6 d ?_ | refine W.a7 ?_ | refine W.a8 ?_))
 obtain ⟨sa2, h9, e9, d, _⟩ := d.toSt hal (xa.keepN d.kb)
 refine W.bs e9 ?_
 ((try simp only [n1, n2, n3, n4, n5, n6] at d); (with_reducible repeat first | refine W.a1 d ?_ | refine W.a2 ?_ | refine W.a3 ?_ | refine W.bo ?_ | refine W.a5 d fun hw d lw kw => ?_ | refine W.a6 d ?_ | refine W.a7 ?_ | refine W.a8 ?_))
 obtain ⟨ta2, S2, h10, e10, d, _⟩ := d.toTm (d.rs (i := 0) rfl) hB (d.rlt (i := 0) rfl)
 refine W.bs e10 ?_
 ((try simp only [n1, n2, n3, n4, n5, n6] at d); (with_reducible repeat first | refine W.a1 d ?_ | refine W.a2 ?_ | refine W.a3 ?_ | refine W.bo ?_ | refine W.a5 d fun hw d lw kw => ?_ | refine W.a6 d ?_ | refine W.a7 ?_ | refine W.a8 ?_); (refine W.nD d fun w3 d _ kw3 => ?_); (with_reducible repeat first | refine W.a1 d ?_ | refine W.a2 ?_ | refine W.a3 ?_ | refine W.bo ?_ | refine W.a5 d fun hw d lw kw => ?_ | refine W.a6 d ?_ | refine W.a7 ?_ | refine W.a8 ?_))
 obtain ⟨wg, sg, h11, e11, dg⟩ := implPut_run (base := base) (f := f + 1) _ S2 (.mk k n s l) _ w ats wa2 sa2 (TmG.tmR (d.rs (i := 8) rfl)) (d.rlt (i := 8) rfl) (Own.sl (d.rs (i := 6) rfl)) (Own.sl (d.rs (i := 7) rfl)) hwl hal d.ge
 have d := d.call2R dg rfl rfl
 refine W.bs e11 ?_
 rw [hQ] at d ⊢
 ((try simp only [n1, n2, n3, n4, n5, n6] at d); (with_reducible repeat first | refine W.a1 d ?_ | refine W.a2 ?_ | refine W.a3 ?_ | refine W.bo ?_ | refine W.a5 d fun hw d lw kw => ?_ | refine W.a6 d ?_ | refine W.a7 ?_ | refine W.a8 ?_); (refine W.nD d fun w4 d _ kw4 => ?_); (with_reducible repeat first | refine W.a1 d ?_ | refine W.a2 ?_ | refine W.a3 ?_ | refine W.bo ?_ | refine W.a5 d fun hw d lw kw => ?_ | refine W.a6 d ?_ | refine W.a7 ?_ | refine W.a8 ?_))
 apply W.jb false d
 ·((try simp only [n1, n2, n3, n4, n5, n6] at d); (with_reducible repeat first | refine W.a1 d ?_ | refine W.a2 ?_ | refine W.a3 ?_ | refine W.bo ?_ | refine W.a5 d fun hw d lw kw => ?_ | refine W.a6 d ?_ | refine W.a7 ?_ | refine W.a8 ?_))
  obtain ⟨hx1, ex1, kx1⟩ := eqHeap_run (base := base) (l := q.1.1) (by omega) (Own.sl (d.rs (i := 9) rfl)) (Own.sl (d.rs (i := 4) rfl)) d.ge
  refine W.bs ex1 ?_
  have d := d.kN kx1
  ((try simp only [n1, n2, n3, n4, n5, n6] at d); (with_reducible repeat first | refine W.a1 d ?_ | refine W.a2 ?_ | refine W.a3 ?_ | refine W.bo ?_ | refine W.a5 d fun hw d lw kw => ?_ | refine W.a6 d ?_ | refine W.a7 ?_ | refine W.a8 ?_))
  refine W.ifF (by decide) ?_
  refine W.bs (eqStringS_run (base := base) (l := q.1.2) (by omega) (Own.sl (d.rs (i := 10) rfl)) (Own.sl (d.rs (i := 5) rfl))) ?_
  ((try simp only [n1, n2, n3, n4, n5, n6] at d); (with_reducible repeat first | refine W.a1 d ?_ | refine W.a2 ?_ | refine W.a3 ?_ | refine W.bo ?_ | refine W.a5 d fun hw d lw kw => ?_ | refine W.a6 d ?_ | refine W.a7 ?_ | refine W.a8 ?_))
  refine W.ifF (by decide) ?_
  refine W.ifF (by simp) ?_
  exact W.lb rfl (by simp) kx1
 intro hj1 d nj1
 ((try simp only [n1, n2, n3, n4, n5, n6] at d); (with_reducible repeat first | refine W.a1 d ?_ | refine W.a2 ?_ | refine W.a3 ?_ | refine W.bo ?_ | refine W.a5 d fun hw d lw kw => ?_ | refine W.a6 d ?_ | refine W.a7 ?_ | refine W.a8 ?_))
 refine W.ifF (by decide) ?_
 ((try simp only [n1, n2, n3, n4, n5, n6] at d); (with_reducible repeat first | refine W.a1 d ?_ | refine W.a2 ?_ | refine W.a3 ?_ | refine W.bo ?_ | refine W.a5 d fun hw d lw kw => ?_ | refine W.a6 d ?_ | refine W.a7 ?_ | refine W.a8 ?_))
 obtain ⟨wa3, h12, e12, d, _⟩ := d.toHp hwl (xw.keepN d.kb)
 refine W.bs e12 ?_
 ((try simp only [n1, n2, n3, n4, n5, n6] at d); (with_reducible repeat first | refine W.a1 d ?_ | refine W.a2 ?_ | refine W.a3 ?_ | refine W.bo ?_ | refine W.a5 d fun hw d lw kw => ?_ | refine W.a6 d ?_ | refine W.a7 ?_ | refine W.a8 ?_))
 obtain ⟨h13, e13, k13⟩ := eqHeap_run (base := base) (l := w) (by omega) (Own.sl (d.rs (i := 6) rfl)) (Own.sl (d.rs (i := 11) rfl)) d.ge
 refine W.bs e13 ?_
 have d := d.kN k13
 ((try simp only [n1, n2, n3, n4, n5, n6] at d); (with_reducible repeat first | refine W.a1 d ?_ | refine W.a2 ?_ | refine W.a3 ?_ | refine W.bo ?_ | refine W.a5 d fun hw d lw kw => ?_ | refine W.a6 d ?_ | refine W.a7 ?_ | refine W.a8 ?_))
 refine W.ifF (by decide) ?_
 obtain ⟨sa3, h14, e14, d, _⟩ := d.toSt hal (xa.keepN d.kb)
 refine W.bs e14 ?_
 ((try simp only [n1, n2, n3, n4, n5, n6] at d); (with_reducible repeat first | refine W.a1 d ?_ | refine W.a2 ?_ | refine W.a3 ?_ | refine W.bo ?_ | refine W.a5 d fun hw d lw kw => ?_ | refine W.a6 d ?_ | refine W.a7 ?_ | refine W.a8 ?_))
 refine W.bs (eqStringS_run (base := base) (l := ats) (by omega) (Own.sl (d.rs (i := 7) rfl)) (Own.sl (d.rs (i := 12) rfl))) ?_
 ((try simp only [n1, n2, n3, n4, n5, n6] at d); (with_reducible repeat first | refine W.a1 d ?_ | refine W.a2 ?_ | refine W.a3 ?_ | refine W.bo ?_ | refine W.a5 d fun hw d lw kw => ?_ | refine W.a6 d ?_ | refine W.a7 ?_ | refine W.a8 ?_))
 refine W.ifF (by decide) ?_
 ((try simp only [n1, n2, n3, n4, n5, n6] at d); (with_reducible repeat first | refine W.a1 d ?_ | refine W.a2 ?_ | refine W.a3 ?_ | refine W.bo ?_ | refine W.a5 d fun hw d lw kw => ?_ | refine W.a6 d ?_ | refine W.a7 ?_ | refine W.a8 ?_))
 obtain ⟨ta3, S3, h15, e15, d, _⟩ := d.toTm (d.rs (i := 0) rfl) hB (d.rlt (i := 0) rfl)
 refine W.bs e15 ?_
 ((try simp only [n1, n2, n3, n4, n5, n6] at d); (with_reducible repeat first | refine W.a1 d ?_ | refine W.a2 ?_ | refine W.a3 ?_ | refine W.bo ?_ | refine W.a5 d fun hw d lw kw => ?_ | refine W.a6 d ?_ | refine W.a7 ?_ | refine W.a8 ?_))
 obtain ⟨h16, e16, k16⟩ := eqTerm_run (base := base) (f + 1) (f + 1) _ _ _ (.mk k n s l) _ _ (TmG.tmR (d.rs (i := 8) rfl)) (TmG.tmR (d.rs (i := 13) rfl)) d.ge
 refine W.bs e16 ?_
 have d := d.kN k16
 ((try simp only [n1, n2, n3, n4, n5, n6] at d); (with_reducible repeat first | refine W.a1 d ?_ | refine W.a2 ?_ | refine W.a3 ?_ | refine W.bo ?_ | refine W.a5 d fun hw d lw kw => ?_ | refine W.a6 d ?_ | refine W.a7 ?_ | refine W.a8 ?_))
 refine W.ifF (by decide) ?_
 ((try simp only [n1, n2, n3, n4, n5, n6] at d); (with_reducible repeat first | refine W.a1 d ?_ | refine W.a2 ?_ | refine W.a3 ?_ | refine W.bo ?_ | refine W.a5 d fun hw d lw kw => ?_ | refine W.a6 d ?_ | refine W.a7 ?_ | refine W.a8 ?_))
 obtain ⟨h17, e17, o17, k17⟩ := markHeap_run (base := base) (k := 1) (d.rs (i := 6) rfl : Own base 3 _ wa2 (iv .i64 w)) (by omega) (by omega) d.ge
 refine W.bs e17 ?_
 have d := d.junk (i := 6) rfl rfl k17 (fun b hb => .inl hb)
 ((try simp only [n1, n2, n3, n4, n5, n6] at d); (with_reducible repeat first | refine W.a1 d ?_ | refine W.a2 ?_ | refine W.a3 ?_ | refine W.bo ?_ | refine W.a5 d fun hw d lw kw => ?_ | refine W.a6 d ?_ | refine W.a7 ?_ | refine W.a8 ?_))
 obtain ⟨h18, e18, o18, k18⟩ := markStringS_run (base := base) (k := 1 + w.length) (d.rs (i := 7) rfl : Own base 9 _ sa2 (stV ats)) (by omega) (by omega)
 refine W.bs e18 ?_
 have d := d.junk (i := 7) rfl rfl k18 (fun b hb => .inl hb)
 ((try simp only [n1, n2, n3, n4, n5, n6] at d); (with_reducible repeat first | refine W.a1 d ?_ | refine W.a2 ?_ | refine W.a3 ?_ | refine W.bo ?_ | refine W.a5 d fun hw d lw kw => ?_ | refine W.a6 d ?_ | refine W.a7 ?_ | refine W.a8 ?_))
 obtain ⟨z19, h19, e19, hz19, k19⟩ := markTerm_run (base := base) (k := ((1 + w.length + ats.length : Nat) : Int)) (TmG.d (d.rs (i := 8) rfl)) (fun b hb' => ⟨Nat.le_trans hb ((d.rfr (i := 8) rfl rfl b hb').resolve_left fun h => h), d.rlt (i := 8) rfl b hb'⟩) d.ge (by omega) (by omega)
 refine W.bs e19 ?_
 have d := d.junk (i := 8) rfl rfl k19 (fun b hb => .inl hb)
 ((try simp only [n1, n2, n3, n4, n5, n6] at d); (with_reducible repeat first | refine W.a1 d ?_ | refine W.a2 ?_ | refine W.a3 ?_ | refine W.bo ?_ | refine W.a5 d fun hw d lw kw => ?_ | refine W.a6 d ?_ | refine W.a7 ?_ | refine W.a8 ?_))
 apply W.jb false d
 ·((try simp only [n1, n2, n3, n4, n5, n6] at d); (with_reducible repeat first | refine W.a1 d ?_ | refine W.a2 ?_ | refine W.a3 ?_ | refine W.bo ?_ | refine W.a5 d fun hw d lw kw => ?_ | refine W.a6 d ?_ | refine W.a7 ?_ | refine W.a8 ?_))
  refine W.ifF (by simp; omega) ?_
  ((try simp only [n1, n2, n3, n4, n5, n6] at d); (with_reducible repeat first | refine W.a1 d ?_ | refine W.a2 ?_ | refine W.a3 ?_ | refine W.bo ?_ | refine W.a5 d fun hw d lw kw => ?_ | refine W.a6 d ?_ | refine W.a7 ?_ | refine W.a8 ?_))
  obtain ⟨hx2, ex2, kx2⟩ := eqHeap_run (base := base) (l := q.1.1) (by omega) (Own.sl (d.rs (i := 9) rfl)) (Own.sl (d.rs (i := 4) rfl)) d.ge
  refine W.bs ex2 ?_
  have d := d.kN kx2
  ((try simp only [n1, n2, n3, n4, n5, n6] at d); (with_reducible repeat first | refine W.a1 d ?_ | refine W.a2 ?_ | refine W.a3 ?_ | refine W.bo ?_ | refine W.a5 d fun hw d lw kw => ?_ | refine W.a6 d ?_ | refine W.a7 ?_ | refine W.a8 ?_))
  refine W.ifF (by decide) ?_
  refine W.bs (eqStringS_run (base := base) (l := q.1.2) (by omega) (Own.sl (d.rs (i := 10) rfl)) (Own.sl (d.rs (i := 5) rfl))) ?_
  ((try simp only [n1, n2, n3, n4, n5, n6] at d); (with_reducible repeat first | refine W.a1 d ?_ | refine W.a2 ?_ | refine W.a3 ?_ | refine W.bo ?_ | refine W.a5 d fun hw d lw kw => ?_ | refine W.a6 d ?_ | refine W.a7 ?_ | refine W.a8 ?_))
  refine W.ifF (by decide) ?_
  refine W.ifF (by simp) ?_
  exact W.lb rfl (by simp) kx2
 intro hj2 d nj2
 ((try simp only [n1, n2, n3, n4, n5, n6] at d); (with_reducible repeat first | refine W.a1 d ?_ | refine W.a2 ?_ | refine W.a3 ?_ | refine W.bo ?_ | refine W.a5 d fun hw d lw kw => ?_ | refine W.a6 d ?_ | refine W.a7 ?_ | refine W.a8 ?_))
 refine W.ifF (by decide) ?_
 ((try simp only [n1, n2, n3, n4, n5, n6] at d); (with_reducible repeat first | refine W.a1 d ?_ | refine W.a2 ?_ | refine W.a3 ?_ | refine W.bo ?_ | refine W.a5 d fun hw d lw kw => ?_ | refine W.a6 d ?_ | refine W.a7 ?_ | refine W.a8 ?_))
 obtain ⟨h20, e20, o20, k20⟩ := markHeap_run (base := base) (k := 1) (d.rs (i := 9) rfl : Own base 3 _ wg (iv .i64 q.1.1)) (by omega) (by omega) d.ge
 refine W.bs e20 ?_
 have d := d.upd (r := rW base wg q.1.1) (r' := ⟨blk wg, true, fun y => Own base 3 y wg (iv .i64 (marksI 1 q.1.1.length))⟩) (Upd.at (i := 9) rfl) rfl rfl k20 (fun b hb => .inl hb) o20 (fun U y y' ky hs x => x.keep ky hs) (fun b hb => .inl hb)
 ((try simp only [n1, n2, n3, n4, n5, n6] at d); (with_reducible repeat first | refine W.a1 d ?_ | refine W.a2 ?_ | refine W.a3 ?_ | refine W.bo ?_ | refine W.a5 d fun hw d lw kw => ?_ | refine W.a6 d ?_ | refine W.a7 ?_ | refine W.a8 ?_))
 obtain ⟨h21, e21, o21, k21⟩ := markStringS_run (base := base) (k := 1 + q.1.1.length) (d.rs (i := 10) rfl : Own base 9 _ sg (stV q.1.2)) (by omega) (by omega)
 refine W.bs e21 ?_
 have d := d.upd (r := rSt base sg q.1.2) (r' := ⟨blk sg, true, fun y => Own base 9 y sg (stV (marksS (1 + q.1.1.length) q.1.2.length))⟩) (Upd.at (i := 10) rfl) rfl rfl k21 (fun b hb => .inl hb) o21 (fun U y y' ky hs x => x.keep ky hs) (fun b hb => .inl hb)
 ((try simp only [n1, n2, n3, n4, n5, n6] at d); (with_reducible repeat first | refine W.a1 d ?_ | refine W.a2 ?_ | refine W.a3 ?_ | refine W.bo ?_ | refine W.a5 d fun hw d lw kw => ?_ | refine W.a6 d ?_ | refine W.a7 ?_ | refine W.a8 ?_))
 obtain ⟨h22, e22, k22⟩ := heldHeap_run (base := base) (k := 1) (n := q.1.1.length) (Own.sl (d.rs (i := 9) rfl)) (by omega) (by omega) d.ge
 refine W.bs e22 ?_
 have d := d.kN k22
 ((try simp only [n1, n2, n3, n4, n5, n6] at d); (with_reducible repeat first | refine W.a1 d ?_ | refine W.a2 ?_ | refine W.a3 ?_ | refine W.bo ?_ | refine W.a5 d fun hw d lw kw => ?_ | refine W.a6 d ?_ | refine W.a7 ?_ | refine W.a8 ?_))
 refine W.ifF (by simp; omega) ?_
 obtain ⟨h23, e23, k23⟩ := heldStringS_run (base := base) (k := 1 + q.1.1.length) (n := q.1.2.length) (Own.sl (d.rs (i := 10) rfl)) (by omega) (by omega)
 refine W.bs e23 ?_
 have d := d.kN k23
 ((try simp only [n1, n2, n3, n4, n5, n6] at d); (with_reducible repeat first | refine W.a1 d ?_ | refine W.a2 ?_ | refine W.a3 ?_ | refine W.bo ?_ | refine W.a5 d fun hw d lw kw => ?_ | refine W.a6 d ?_ | refine W.a7 ?_ | refine W.a8 ?_))
 refine W.ifF (by simp; omega) ?_
 refine W.ifF (by simp) ?_
 ((try simp only [n1, n2, n3, n4, n5, n6] at d); (with_reducible repeat first | refine W.a1 d ?_ | refine W.a2 ?_ | refine W.a3 ?_ | refine W.bo ?_ | refine W.a5 d fun hw d lw kw => ?_ | refine W.a6 d ?_ | refine W.a7 ?_ | refine W.a8 ?_))
 obtain ⟨wa4, h24, e24, d, _⟩ := d.toHp hwl (xw.keepN d.kb)
 refine W.bs e24 ?_
 ((try simp only [n1, n2, n3, n4, n5, n6] at d); (with_reducible repeat first | refine W.a1 d ?_ | refine W.a2 ?_ | refine W.a3 ?_ | refine W.bo ?_ | refine W.a5 d fun hw d lw kw => ?_ | refine W.a6 d ?_ | refine W.a7 ?_ | refine W.a8 ?_))
 obtain ⟨sa4, h25, e25, d, _⟩ := d.toSt hal (xa.keepN d.kb)
 refine W.bs e25 ?_
 ((try simp only [n1, n2, n3, n4, n5, n6] at d); (with_reducible repeat first | refine W.a1 d ?_ | refine W.a2 ?_ | refine W.a3 ?_ | refine W.bo ?_ | refine W.a5 d fun hw d lw kw => ?_ | refine W.a6 d ?_ | refine W.a7 ?_ | refine W.a8 ?_))
 obtain ⟨ta4, S4, h26, e26, d, _⟩ := d.toTm (d.rs (i := 0) rfl) hB (d.rlt (i := 0) rfl)
 refine W.bs e26 ?_
 ((try simp only [n1, n2, n3, n4, n5, n6] at d); (with_reducible repeat first | refine W.a1 d ?_ | refine W.a2 ?_ | refine W.a3 ?_ | refine W.bo ?_ | refine W.a5 d fun hw d lw kw => ?_ | refine W.a6 d ?_ | refine W.a7 ?_ | refine W.a8 ?_))
 obtain ⟨wh, sh, h27, e27, dh⟩ := implPut_run (base := base) (f := f + 1) _ S4 (.mk k n s l) _ w ats wa4 sa4 (TmG.tmR (d.rs (i := 16) rfl)) (d.rlt (i := 16) rfl) (Own.sl (d.rs (i := 14) rfl)) (Own.sl (d.rs (i := 15) rfl)) hwl hal d.ge
 have d := d.call2R dh rfl rfl
 refine W.bs e27 ?_
 rw [hQ] at d ⊢
 ((try simp only [n1, n2, n3, n4, n5, n6] at d); (with_reducible repeat first | refine W.a1 d ?_ | refine W.a2 ?_ | refine W.a3 ?_ | refine W.bo ?_ | refine W.a5 d fun hw d lw kw => ?_ | refine W.a6 d ?_ | refine W.a7 ?_ | refine W.a8 ?_); (refine W.nD d fun w5 d _ kw5 => ?_); (with_reducible repeat first | refine W.a1 d ?_ | refine W.a2 ?_ | refine W.a3 ?_ | refine W.bo ?_ | refine W.a5 d fun hw d lw kw => ?_ | refine W.a6 d ?_ | refine W.a7 ?_ | refine W.a8 ?_))
 apply W.jb false d
 ·((try simp only [n1, n2, n3, n4, n5, n6] at d); (with_reducible repeat first | refine W.a1 d ?_ | refine W.a2 ?_ | refine W.a3 ?_ | refine W.bo ?_ | refine W.a5 d fun hw d lw kw => ?_ | refine W.a6 d ?_ | refine W.a7 ?_ | refine W.a8 ?_))
  obtain ⟨hx3, ex3, kx3⟩ := eqHeap_run (base := base) (l := q.1.1) (by omega) (Own.sl (d.rs (i := 17) rfl)) (Own.sl (d.rs (i := 4) rfl)) d.ge
  refine W.bs ex3 ?_
  have d := d.kN kx3
  ((try simp only [n1, n2, n3, n4, n5, n6] at d); (with_reducible repeat first | refine W.a1 d ?_ | refine W.a2 ?_ | refine W.a3 ?_ | refine W.bo ?_ | refine W.a5 d fun hw d lw kw => ?_ | refine W.a6 d ?_ | refine W.a7 ?_ | refine W.a8 ?_))
  refine W.ifF (by decide) ?_
  refine W.bs (eqStringS_run (base := base) (l := q.1.2) (by omega) (Own.sl (d.rs (i := 18) rfl)) (Own.sl (d.rs (i := 5) rfl))) ?_
  ((try simp only [n1, n2, n3, n4, n5, n6] at d); (with_reducible repeat first | refine W.a1 d ?_ | refine W.a2 ?_ | refine W.a3 ?_ | refine W.bo ?_ | refine W.a5 d fun hw d lw kw => ?_ | refine W.a6 d ?_ | refine W.a7 ?_ | refine W.a8 ?_))
  refine W.ifF (by decide) ?_
  refine W.ifF (by simp) ?_
  exact W.lb rfl (by simp) kx3
 intro hj3 d nj3
 ((try simp only [n1, n2, n3, n4, n5, n6] at d); (with_reducible repeat first | refine W.a1 d ?_ | refine W.a2 ?_ | refine W.a3 ?_ | refine W.bo ?_ | refine W.a5 d fun hw d lw kw => ?_ | refine W.a6 d ?_ | refine W.a7 ?_ | refine W.a8 ?_))
 refine W.ifF (by decide) ?_
 ((try simp only [n1, n2, n3, n4, n5, n6] at d); (with_reducible repeat first | refine W.a1 d ?_ | refine W.a2 ?_ | refine W.a3 ?_ | refine W.bo ?_ | refine W.a5 d fun hw d lw kw => ?_ | refine W.a6 d ?_ | refine W.a7 ?_ | refine W.a8 ?_))
 obtain ⟨h28, e28, k28⟩ := heldHeap_run (base := base) (k := 1) (n := q.1.1.length) (Own.sl (d.rs (i := 9) rfl)) (by omega) (by omega) d.ge
 refine W.bs e28 ?_
 have d := d.kN k28
 ((try simp only [n1, n2, n3, n4, n5, n6] at d); (with_reducible repeat first | refine W.a1 d ?_ | refine W.a2 ?_ | refine W.a3 ?_ | refine W.bo ?_ | refine W.a5 d fun hw d lw kw => ?_ | refine W.a6 d ?_ | refine W.a7 ?_ | refine W.a8 ?_))
 refine W.ifF (by simp; omega) ?_
 obtain ⟨h29, e29, k29⟩ := heldStringS_run (base := base) (k := 1 + q.1.1.length) (n := q.1.2.length) (Own.sl (d.rs (i := 10) rfl)) (by omega) (by omega)
 refine W.bs e29 ?_
 ((try simp only [n1, n2, n3, n4, n5, n6] at d); (with_reducible repeat first | refine W.a1 d ?_ | refine W.a2 ?_ | refine W.a3 ?_ | refine W.bo ?_ | refine W.a5 d fun hw d lw kw => ?_ | refine W.a6 d ?_ | refine W.a7 ?_ | refine W.a8 ?_))
 refine W.ifF (by simp; omega) ?_
 refine W.ifF (by simp) (W.ret rfl)
set_option maxRecDepth 100000 in
theorem rd_heap {h : AH} {f : Nat} {cs : List Value} (x : Rd Try.prog h f 24 cs) : ∃ a l, cs = [.slice a (List.length l) (List.length l)] ∧ l.length ≤ maxLen ∧ Sl h a (iv .i64 l) ∧ ∀ n ∈ l, wOk n := by
 have cT : Try.prog.cellsOf 24 = 1 := by kernel_rfl
 have cL : Try.prog.cellsOf 22 = 1 := by kernel_rfl
 match f, x with
 | 0, x => exact x.elim
 | f + 1, x =>
  simp only [Rd, Try.underlying24] at x
  obtain ⟨hl, hf⟩ := x
  rw [cT] at hl
  match cs, hl with
  | [v0], _ =>
   simp only [List.forall_mem_cons, cL, List.drop_zero, List.drop_succ_cons, List.take_succ_cons, List.take_zero] at hf
   obtain ⟨f0, _⟩ := hf
   obtain ⟨a, l, rfl, h1, h2, h3⟩ := rd_ints f0
   exact ⟨a, l, rfl, h1, h2, h3⟩
theorem putTerm_entry {base : Nat} {h : AH} {f f2 f3 : Nat} {cs ts : List Value} {v : Value} (x : Rd Try.prog h f 24 cs) (y : Rd Try.prog h f2 25 [v]) (z : Rd Try.prog h f3 28 ts) (hb : base ≤ h.length) : ∃ h', run (Et base) 3 [.agg cs.toArray, v, .agg ts.toArray] h = some (.bool true, h') := by
 obtain ⟨a, w, rfl, h1, h2, h3⟩ := rd_heap x
 obtain ⟨sa, ats, rfl, s1, s2, s3⟩ := rd_strs y
 obtain ⟨t, xt⟩ := rd_term _ _ z
 clear z x y
 cases f3 with
 | zero => exact xt.elim
 | succ f3 =>
  obtain ⟨k, n, s, l⟩ := t
  obtain ⟨ta, rfl, _⟩ := xt.parts
  obtain ⟨⟨u, h'⟩, e, q⟩ := putTerm_law (base := base) h1 (by have := s1; unfold maxLen at this; exact this) s3 h2 s2 xt (fun b hb => hb) hb
  simp only at q
  exact ⟨h', by rw [e, q]⟩
end Go.Proofs.Ytjmkbglnjklbcaa.Am
