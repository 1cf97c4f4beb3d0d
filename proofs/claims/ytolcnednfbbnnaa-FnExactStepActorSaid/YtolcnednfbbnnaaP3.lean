/- What the functions of this law compute, lemma by lemma, up to the law.
Conditions: none. -/
import Derived.Test.YtolcnednfbbnnaaP2
import Derived.IntWalk
import Derived.Laws.BitsLemmas

set_option linter.unusedSimpArgs false
set_option linter.unusedVariables false
namespace Go.Proofs.Ytolcnednfbbnnaa.Am
open Go Go.RowKit

def SdD (f : Nat) (S : Fp) (h : AH) (x : Sd) (cs : List Value) : Prop := ∃ k n s a m, cs = saidV x.kind x.pid k n s a m ∧ TmD f S h x.t (termV k n s a m)
theorem SdD.kp (f : Nat) : Kp (SdD f) := fun S U h h' x cs k hs y => by
  obtain ⟨k1, n, s, a, m, e, r⟩ := y
  exact ⟨k1, n, s, a, m, e, TmD.kp f _ _ _ _ _ _ k hs r⟩
theorem SdD.mo (f : Nat) : Mo (SdD f) := fun S S' h x cs hs y => by
  obtain ⟨k1, n, s, a, m, e, r⟩ := y
  exact ⟨k1, n, s, a, m, e, TmD.mo f _ _ _ _ _ hs r⟩
/-- Timers that hold the marks from k on, up to k'. -/
inductive IsMT : List Sd → Int → Int → Prop
  | nil (k : Int) : IsMT [] k k
  | cons {k k1 k2 : Int} {l : List Tm} {r : List Sd} : IsM l (k + 5) k1 → IsMT r k1 k2 → IsMT (⟨k, k + 1, .mk (k + 2) (k + 3) (mt (k + 4)) l⟩ :: r) k k2
theorem IsMT.le {l : List Sd} {k k' : Int} (x : IsMT l k k') : k ≤ k' := by
  induction x with
  | nil => exact Int.le_refl _
  | cons m _ ih2 => have := m.le; omega
end Go.Proofs.Ytolcnednfbbnnaa.Am


set_option linter.unusedSimpArgs false
set_option linter.unusedVariables false
namespace Go.Proofs.Ytolcnednfbbnnaa.Am
open Go Go.RowKit

end Go.Proofs.Ytolcnednfbbnnaa.Am


set_option linter.unusedSimpArgs false
set_option linter.unusedVariables false
namespace Go.Proofs.Ytolcnednfbbnnaa.Am
open Go Go.RowKit

end Go.Proofs.Ytolcnednfbbnnaa.Am


set_option linter.unusedSimpArgs false
set_option linter.unusedVariables false
namespace Go.Proofs.Ytolcnednfbbnnaa.Am
open Go Go.RowKit

end Go.Proofs.Ytolcnednfbbnnaa.Am


set_option linter.unusedSimpArgs false
set_option linter.unusedVariables false
namespace Go.Proofs.Ytolcnednfbbnnaa.Am
open Go Go.RowKit

end Go.Proofs.Ytolcnednfbbnnaa.Am


set_option linter.unusedSimpArgs false
set_option linter.unusedVariables false
namespace Go.Proofs.Ytolcnednfbbnnaa.Am
open Go Go.RowKit

end Go.Proofs.Ytolcnednfbbnnaa.Am


set_option linter.unusedSimpArgs false
set_option linter.unusedVariables false
namespace Go.Proofs.Ytolcnednfbbnnaa.Am
open Go Go.RowKit

/-- A system: its code, its actors, the next number, what was said. -/
structure Pl where
  code : List In
  acs : List Ac
  next : Int
  out : List Sd
abbrev plV (a : Option Addr) (n : Nat) (b : Option Addr) (m : Nat) (v : Int) (g : Option Addr) (q : Nat) : List Value := [.slice a n n, .slice b m m, .int .i64 v, .slice g q q]
/-- A system that can be read. -/
def PlR (h : AH) (p : Nat → Prop) (f : Nat) (P : Pl) (cs : List Value) : Prop :=
  ∃ a b g, cs = plV a P.code.length b P.acs.length P.next g P.out.length ∧ Sl h a (insR P.code) ∧ (insR P.code = [] ∨ ∀ x, blk a x → p x) ∧ AsR h p f P.acs b ∧ SsR h p f P.out g
def PlM (P : Pl) : Prop := P.code.length ≤ 9223372036854775807 ∧ (∀ x ∈ P.code, x.s.size ≤ 9223372036854775807) ∧ P.acs.length ≤ 9223372036854775807 ∧ (∀ A ∈ P.acs, AcM A) ∧ P.out.length ≤ 9223372036854775807
def PlB (f : Nat) (P : Pl) : Prop := P.code.length ≤ 1048576 ∧ (∀ x ∈ P.code, x.s.size ≤ 1048576) ∧ P.acs.length ≤ 1048576 ∧ (∀ A ∈ P.acs, AcB f A) ∧ P.out.length ≤ 1048576 ∧ (∀ x ∈ P.out, TmB f x.t)
theorem PlB.M {f : Nat} {P : Pl} (x : PlB f P) : PlM P := by
  obtain ⟨h1, h2, h3, h4, h5, _⟩ := x
  exact ⟨by omega, fun x hx => by have := h2 x hx; omega, by omega, fun A hA => (h4 A hA).M, by omega⟩
/-- A system all of whose rows are its own. -/
def PlD (base f : Nat) (S : Fp) (h : AH) (P : Pl) (cs : List Value) : Prop :=
  ∃ (a b g : Option Addr) (S1 S2 S3 : Fp), cs = plV a P.code.length b P.acs.length P.next g P.out.length ∧ Own base 82 h a (insR P.code) ∧ (∀ x, blk a x → S1 x) ∧ RowD 5 (AcD base f) S2 h P.acs b ∧ RowD 6 (SdD f) S3 h P.out g ∧
    (∀ x, S1 x → S x) ∧ (∀ x, S2 x → S x) ∧ (∀ x, S3 x → S x) ∧ (∀ x, S1 x → ¬ S2 x) ∧ (∀ x, S1 x → ¬ S3 x) ∧ (∀ x, S2 x → ¬ S3 x)
/-- The same, and its rows may grow. -/
def PlG (base f : Nat) (S : Fp) (h : AH) (P : Pl) (cs : List Value) : Prop :=
  ∃ (a b g : Option Addr) (S1 S2 S3 : Fp), cs = plV a P.code.length b P.acs.length P.next g P.out.length ∧ Own base 82 h a (insR P.code) ∧ (∀ x, blk a x → S1 x) ∧ RowO base 52 5 (AcG base f) S2 h P.acs b ∧ RowO base 127 6 (SdD f) S3 h P.out g ∧
    (∀ x, S1 x → S x) ∧ (∀ x, S2 x → S x) ∧ (∀ x, S3 x → S x) ∧ (∀ x, S1 x → ¬ S2 x) ∧ (∀ x, S1 x → ¬ S3 x) ∧ (∀ x, S2 x → ¬ S3 x)
theorem PlG.plD {base f : Nat} {S : Fp} {h : AH} {P : Pl} {cs : List Value} (x : PlG base f S h P cs) : PlD base f S h P cs := by
  obtain ⟨a, b, g, S1, S2, S3, e, h1, h2, h3, h4, h5⟩ := x
  exact ⟨a, b, g, S1, S2, S3, e, h1, h2, h3.d.imp fun _ _ _ _ => AcG.acD, h4.d, h5⟩
theorem PlG.kp (base f : Nat) : Kp (PlG base f) := fun S U h h' P cs k hs x => by
  obtain ⟨a, b, g, S1, S2, S3, e, h1, h2, h3, h4, s1, s2, s3, d1, d2, d3⟩ := x
  exact ⟨a, b, g, S1, S2, S3, e, h1.keep k fun b hb => hs b (s1 b (h2 b hb)), h2, h3.keep (AcG.kp _ _) k fun b hb => hs b (s2 b hb), h4.keep (SdD.kp _) k fun b hb => hs b (s3 b hb), s1, s2, s3, d1, d2, d3⟩
theorem PlR.keep {h h' : AH} {p S : Nat → Prop} (k : KB S h h') (hp : ∀ b, p b → ¬ S b) {f : Nat} {P : Pl} {cs : List Value} (x : PlR h p f P cs) : PlR h' p f P cs := by
  obtain ⟨a, b, g, e, h1, h2, h3, h4⟩ := x
  refine ⟨a, b, g, e, ?_, h2, h3.keep k hp, h4.keep k hp⟩
  rcases h2 with e | h2
  · exact .inl e
  · exact h1.keep k fun b hb hs => hp b (h2 b hb) hs
theorem PlR.keepN {h h' : AH} {p : Nat → Prop} (k : KB NoB h h') {f : Nat} {P : Pl} {cs : List Value} (x : PlR h p f P cs) : PlR h' p f P cs := x.keep k fun _ _ h => h
theorem PlD.kp (base f : Nat) : Kp (PlD base f) := fun S U h h' P cs k hs x => by
  obtain ⟨a, b, g, S1, S2, S3, e, h1, h2, h3, h4, s1, s2, s3, d1, d2, d3⟩ := x
  exact ⟨a, b, g, S1, S2, S3, e, h1.keep k fun b hb => hs b (s1 b (h2 b hb)), h2, h3.keep (AcD.kp _ _) k fun b hb => hs b (s2 b hb), h4.keep (SdD.kp _) k fun b hb => hs b (s3 b hb), s1, s2, s3, d1, d2, d3⟩
theorem PlD.mo (base f : Nat) : Mo (PlD base f) := fun S S' h P cs hs x => by
  obtain ⟨a, b, g, S1, S2, S3, e, h1, h2, h3, h4, s1, s2, s3, d1, d2, d3⟩ := x
  exact ⟨a, b, g, S1, S2, S3, e, h1, h2, h3, h4, fun x hx => hs x (s1 x hx), fun x hx => hs x (s2 x hx), fun x hx => hs x (s3 x hx), d1, d2, d3⟩
theorem PlD.form {base f : Nat} {S : Fp} {h : AH} {P : Pl} {cs : List Value} (x : PlD base f S h P cs) : ∃ a n b m v g q, cs = plV a n b m v g q := by
  obtain ⟨a, b, g, S1, S2, S3, e, _⟩ := x
  exact ⟨_, _, _, _, _, _, _, e⟩

theorem PlG.form {base f : Nat} {S : Fp} {h : AH} {P : Pl} {cs : List Value} (x : PlG base f S h P cs) : ∃ a n b m v g q, cs = plV a n b m v g q := x.plD.form

end Go.Proofs.Ytolcnednfbbnnaa.Am


set_option linter.unusedSimpArgs false
set_option linter.unusedVariables false
namespace Go.Proofs.Ytolcnednfbbnnaa.Am
open Go Go.RowKit

end Go.Proofs.Ytolcnednfbbnnaa.Am


set_option linter.unusedSimpArgs false
set_option linter.unusedVariables false
namespace Go.Proofs.Ytolcnednfbbnnaa.Am
open Go Go.RowKit

def a0 : Ac := ⟨0, 0, [], [], []⟩
end Go.Proofs.Ytolcnednfbbnnaa.Am


set_option linter.unusedSimpArgs false
set_option linter.unusedVariables false
namespace Go.Proofs.Ytolcnednfbbnnaa.Am
open Go Go.RowKit

end Go.Proofs.Ytolcnednfbbnnaa.Am


set_option linter.unusedSimpArgs false
set_option linter.unusedVariables false
namespace Go.Proofs.Ytolcnednfbbnnaa.Am
open Go Go.RowKit

end Go.Proofs.Ytolcnednfbbnnaa.Am


set_option linter.unusedSimpArgs false
set_option linter.unusedVariables false
namespace Go.Proofs.Ytolcnednfbbnnaa.Am
open Go Go.RowKit

end Go.Proofs.Ytolcnednfbbnnaa.Am


set_option linter.unusedSimpArgs false
set_option linter.unusedVariables false
namespace Go.Proofs.Ytolcnednfbbnnaa.Am
open Go Go.RowKit

/-! as it is read -/
theorem AcR.le {h : AH} {p : Nat → Prop} {f f' : Nat} (hf : f ≤ f') {A : Ac} {cs : List Value} (x : AcR h p f A cs) : AcR h p f' A cs := by
  obtain ⟨a, b, g, e, h1, h2, h3⟩ := x
  exact ⟨a, b, g, e, h1.le hf, h2.le hf, h3⟩
theorem AsR.le {h : AH} {p : Nat → Prop} {f f' : Nat} (hf : f ≤ f') {l : List Ac} {a : Option Addr} (x : AsR h p f l a) : AsR h p f' l a := by
  obtain ⟨vs, h1, h2, h3, h4⟩ := x
  exact ⟨vs, h1, h2, h3, fun i y hy => (h4 i y hy).le hf⟩
set_option maxRecDepth 100000 in
theorem rd_actorF {h : AH} {f : Nat} {cs : List Value} (x : Rd Try.prog h f 49 cs) : ∃ A, AcR h (· < h.length) f A cs ∧ AcM A := by
  have cA : Try.prog.cellsOf 49 = 5 := by kernel_rfl
  have c3 : Try.prog.cellsOf 3 = 1 := by kernel_rfl
  have cT : Try.prog.cellsOf 23 = 1 := by kernel_rfl
  have cI : Try.prog.cellsOf 47 = 1 := by kernel_rfl
  match f, x with
  | 0, x => exact x.elim
  | f + 1, x =>
    simp only [Rd, Try.underlying49] at x
    obtain ⟨hl, hf⟩ := x
    rw [cA] at hl
    match cs, hl with
    | [v0, v1, v2, v3, v4], _ =>
      simp only [List.forall_mem_cons, c3, cT, cI, List.drop_zero, List.drop_succ_cons, List.take_succ_cons, List.take_zero] at hf
      obtain ⟨f0, f1, f2, f3, f4, _⟩ := hf
      obtain ⟨n0, e0, _⟩ := f0.int Try.underlying3
      obtain ⟨n1, e1, _⟩ := f1.int Try.underlying3
      injection e0 with e0 _
      injection e1 with e1 _
      subst e0; subst e1
      obtain ⟨a, R, rfl, m2, s2⟩ := rd_terms f2
      obtain ⟨b, B, rfl, m3, s3⟩ := rd_terms f3
      obtain ⟨g, L, e4, m4, s4, _⟩ := f4.ints Try.underlying47 Try.underlying3 c3
      injection e4 with e4 _
      subst e4
      simp only [maxLen] at m2 m3 m4
      refine ⟨⟨n0, n1, R, B, L⟩, AcR.le (f := f) (by omega) ⟨a, b, g, rfl, s2, s3, s4, ?_⟩, by simp only; omega, by simp only; omega, by simp only; omega⟩
      rcases sl_below s4 with e | e
      · exact .inl (by simpa [iv] using e)
      · exact .inr e
end Go.Proofs.Ytolcnednfbbnnaa.Am


set_option linter.unusedSimpArgs false
set_option linter.unusedVariables false
namespace Go.Proofs.Ytolcnednfbbnnaa.Am
open Go Go.RowKit

set_option maxHeartbeats 8000000 in
theorem stepActor_law {base f : Nat} {h : AH} {p : Nat → Prop} {l0 : List In} {c0 : Option Addr} {A1 : Ac} {cs1 : List Value} {v2 : Int} (hL0 : ∀ x ∈ l0, x.s.size ≤ 9223372036854775807) (hl0 : l0.length ≤ 9223372036854775807) (hc0 : Sl h c0 (insR l0)) (hM1 : AcM A1) (x1 : AcR h p (f + 1) A1 cs1)  (hp : ∀ b, p b → b < h.length) (hb : base ≤ h.length) :
    Wp (run (Et base) 4 [.slice c0 l0.length l0.length, .agg cs1.toArray, .int .i64 v2] h) fun r => r.1 = .bool true := by
  obtain ⟨a1, b1, g1, rfl⟩ := x1.form2
  have hb0 := hb
  have d := Hs.start hb
  have d := d.inp p _ x1 (fun U h h' k hs x => AcR.keep k hs x) hp (fun x hx => nomatch hx) rfl
  refine W.of (fun r hx => r4 hx) ?_
  ((try simp only [n1, n2, n3, n4, n5, n6] at d); (with_reducible repeat first | refine W.a1 d ?_ | refine W.a2 ?_ | refine W.a3 ?_ | refine W.bo ?_ | refine W.a5 d fun hw d lw kw => ?_ | refine W.a6 d ?_ | refine W.a7 ?_ | refine W.a8 ?_); (refine W.nD d fun p1 d _ => ?_); (with_reducible repeat first | refine W.a1 d ?_ | refine W.a2 ?_ | refine W.a3 ?_ | refine W.bo ?_ | refine W.a5 d fun hw d lw kw => ?_ | refine W.a6 d ?_ | refine W.a7 ?_ | refine W.a8 ?_))
  obtain ⟨z0, h2, e3, k4, q1⟩ := szInsS_run (base := base) hL0 hl0 (hc0.keepN d.kb) d.ge
  have n5 := k4.1
  have d := d.kN k4
  refine W.bs e3 ?_
  ((try simp only [n1, n2, n3, n4, n5, n6] at d); (with_reducible repeat first | refine W.a1 d ?_ | refine W.a2 ?_ | refine W.a3 ?_ | refine W.bo ?_ | refine W.a5 d fun hw d lw kw => ?_ | refine W.a6 d ?_ | refine W.a7 ?_ | refine W.a8 ?_))
  refine W.ite (fun c => W.ret rfl) (fun c6 => ?_)
  have c6' : ¬ z0 < 0 := by simpa using c6
  obtain ⟨hl0', hL0', hz0⟩ := q1 c6'
  ((try simp only [n1, n2, n3, n4, n5, n6] at d); (with_reducible repeat first | refine W.a1 d ?_ | refine W.a2 ?_ | refine W.a3 ?_ | refine W.bo ?_ | refine W.a5 d fun hw d lw kw => ?_ | refine W.a6 d ?_ | refine W.a7 ?_ | refine W.a8 ?_))
  obtain ⟨z1, h8, e9, k10, hz1a, hz1b, q7⟩ := szActor_run (base := base) (left := z0) hM1 (d.rs (i := 0) rfl) d.ge (d.rlt (i := 0) rfl) (by omega) (by omega)
  have n11 := k10.1
  have d := d.kN k10
  refine W.bs e9 ?_
  ((try simp only [n1, n2, n3, n4, n5, n6] at d); (with_reducible repeat first | refine W.a1 d ?_ | refine W.a2 ?_ | refine W.a3 ?_ | refine W.bo ?_ | refine W.a5 d fun hw d lw kw => ?_ | refine W.a6 d ?_ | refine W.a7 ?_ | refine W.a8 ?_))
  refine W.ite (fun c => W.ret rfl) (fun c12 => ?_)
  have c12' : ¬ z1 < 0 := by simpa using c12
  obtain ⟨hB1, hw1⟩ := q7 c12'
  have hW1 : acW (f + 1) A1 ≤ 1048576 := by unfold acW; omega
  have hQ1 := acW_mc (f + 1) A1
  ((try simp only [n1, n2, n3, n4, n5, n6] at d); (with_reducible repeat first | refine W.a1 d ?_ | refine W.a2 ?_ | refine W.a3 ?_ | refine W.bo ?_ | refine W.a5 d fun hw d lw kw => ?_ | refine W.a6 d ?_ | refine W.a7 ?_ | refine W.a8 ?_))
  obtain ⟨rLe, rW, rT⟩ := stepA_le (l := l0) (next := v2) hB1
  have rQ := acW_mc (f + 2) (stepA f l0 A1 v2).1
  have rMc : 0 ≤ mcA (f + 2) (stepA f l0 A1 v2).1 ∧ mcA (f + 2) (stepA f l0 A1 v2).1 ≤ 4000000 ∧ tcnt (f + 1 + 1) (stepA f l0 A1 v2).2.t ≤ 1048676 := ⟨rQ.1, by omega, by show tcnt (f + 2) _ ≤ _; omega⟩
  clear rQ rW rT
  generalize hR : stepA f l0 A1 v2 = R at rLe rMc
  obtain ⟨RA, kd, pid, pc, ⟨tk, tn, ts, tl⟩⟩ := R
  simp only at rLe rMc
  obtain ⟨h13, e14, o12, k15, _⟩ := toInsS_run (base := base) hl0' (hc0.keepN d.kb) d.ge
  have n16 := k15.1
  have d := d.call k15 (· = List.length _) _ o12 Hs.own_kp (fun b hb => by subst hb; omega)
  refine W.bs e14 ?_
  ((try simp only [n1, n2, n3, n4, n5, n6] at d); (with_reducible repeat first | refine W.a1 d ?_ | refine W.a2 ?_ | refine W.a3 ?_ | refine W.bo ?_ | refine W.a5 d fun hw d lw kw => ?_ | refine W.a6 d ?_ | refine W.a7 ?_ | refine W.a8 ?_))
  obtain ⟨cs17, h19, e20, x18, k21⟩ := toActor_run (base := base) hB1 (d.rs (i := 0) rfl) d.ge (d.rlt (i := 0) rfl)
  have n22 := k21.1
  obtain ⟨_, _, _, rfl⟩ := x18.form2
  have d := d.callP (AcG.kp _ _) k21 x18
  refine W.bs e20 ?_
  ((try simp only [n1, n2, n3, n4, n5, n6] at d); (with_reducible repeat first | refine W.a1 d ?_ | refine W.a2 ?_ | refine W.a3 ?_ | refine W.bo ?_ | refine W.a5 d fun hw d lw kw => ?_ | refine W.a6 d ?_ | refine W.a7 ?_ | refine W.a8 ?_))
  have x39 : AcG base (f + 1) _ _ A1 _ := (d.rs (i := 2) rfl)
  refine W.wb (specStepActor_run (f := f) (next := v2) hL0 hl0 (Own.sl (d.rs (i := 1) rfl)) hB1 x39 (d.rlt (i := 2) rfl) d.ge) ?_
  rw [hR]
  rintro ⟨u, h33⟩ ⟨cs23, kk34, nn35, ss36, aa37, mm38, S25, T26, rfl, gA27, gT28, gd29, gS30, gS31, k32⟩
  obtain ⟨rfl, rfl, rfl, rfl⟩ := gT28.eq
  obtain ⟨_, _, _, rfl⟩ := gA27.form2
  have d := d.call2 k32 S25 T26 (fun y => AcG base (f + 2) S25 y RA _) (fun y => TmG base (f + 2) T26 y (.mk tk tn ts tl) _) gA27 gT28 (fun U y y' k hs x => AcG.kp _ _ _ U y y' _ _ k hs x) (fun U y y' k hs x => TmG.kp _ _ _ U y y' _ _ k hs x) gS30 gS31 gd29
  have n40 : _ ≤ h33.length := k32.1
  ((try simp only [n1, n2, n3, n4, n5, n6] at d); (with_reducible repeat first | refine W.a1 d ?_ | refine W.a2 ?_ | refine W.a3 ?_ | refine W.bo ?_ | refine W.a5 d fun hw d lw kw => ?_ | refine W.a6 d ?_ | refine W.a7 ?_ | refine W.a8 ?_))
  ((try simp only [n1, n2, n3, n4, n5, n6] at d); (with_reducible repeat first | refine W.a1 d ?_ | refine W.a2 ?_ | refine W.a3 ?_ | refine W.bo ?_ | refine W.a5 d fun hw d lw kw => ?_ | refine W.a6 d ?_ | refine W.a7 ?_ | refine W.a8 ?_); (refine W.nD d fun w0 d _ => ?_); (with_reducible repeat first | refine W.a1 d ?_ | refine W.a2 ?_ | refine W.a3 ?_ | refine W.bo ?_ | refine W.a5 d fun hw d lw kw => ?_ | refine W.a6 d ?_ | refine W.a7 ?_ | refine W.a8 ?_); (refine W.nD d fun w1 d _ => ?_); (with_reducible repeat first | refine W.a1 d ?_ | refine W.a2 ?_ | refine W.a3 ?_ | refine W.bo ?_ | refine W.a5 d fun hw d lw kw => ?_ | refine W.a6 d ?_ | refine W.a7 ?_ | refine W.a8 ?_))
  obtain ⟨h41, e42, o40, k43, _⟩ := toInsS_run (base := base) hl0' (hc0.keepN d.kb) d.ge
  have n44 := k43.1
  have d := d.call k43 (· = List.length _) _ o40 Hs.own_kp (fun b hb => by subst hb; omega)
  refine W.bs e42 ?_
  ((try simp only [n1, n2, n3, n4, n5, n6] at d); (with_reducible repeat first | refine W.a1 d ?_ | refine W.a2 ?_ | refine W.a3 ?_ | refine W.bo ?_ | refine W.a5 d fun hw d lw kw => ?_ | refine W.a6 d ?_ | refine W.a7 ?_ | refine W.a8 ?_))
  obtain ⟨cs45, h47, e48, x46, k49⟩ := toActor_run (base := base) hB1 (d.rs (i := 0) rfl) d.ge (d.rlt (i := 0) rfl)
  have n50 := k49.1
  obtain ⟨_, _, _, rfl⟩ := x46.form2
  have d := d.callP (AcG.kp _ _) k49 x46
  refine W.bs e48 ?_
  ((try simp only [n1, n2, n3, n4, n5, n6] at d); (with_reducible repeat first | refine W.a1 d ?_ | refine W.a2 ?_ | refine W.a3 ?_ | refine W.bo ?_ | refine W.a5 d fun hw d lw kw => ?_ | refine W.a6 d ?_ | refine W.a7 ?_ | refine W.a8 ?_))
  ((try simp only [n1, n2, n3, n4, n5, n6] at d); (with_reducible repeat first | refine W.a1 d ?_ | refine W.a2 ?_ | refine W.a3 ?_ | refine W.bo ?_ | refine W.a5 d fun hw d lw kw => ?_ | refine W.a6 d ?_ | refine W.a7 ?_ | refine W.a8 ?_); (refine W.nD d fun x1 d _ => ?_); (with_reducible repeat first | refine W.a1 d ?_ | refine W.a2 ?_ | refine W.a3 ?_ | refine W.bo ?_ | refine W.a5 d fun hw d lw kw => ?_ | refine W.a6 d ?_ | refine W.a7 ?_ | refine W.a8 ?_))
  have x67 : AcG base (f + 1) _ _ A1 _ := (d.rs (i := 6) rfl)
  refine W.wb (implStep_run (f := f) (next := v2) hL0 hl0 (Own.sl (d.rs (i := 5) rfl)) hB1 x67 (d.rlt (i := 6) rfl) d.ge) ?_
  rw [hR]
  rintro ⟨u, h61⟩ ⟨cs51, kk62, nn63, ss64, aa65, mm66, S53, T54, rfl, gA55, gT56, gd57, gS58, gS59, k60⟩
  obtain ⟨rfl, rfl, rfl, rfl⟩ := gT56.eq
  obtain ⟨_, _, _, rfl⟩ := gA55.form2
  have d := d.call2 k60 S53 T54 (fun y => AcG base (f + 2) S53 y RA _) (fun y => TmG base (f + 2) T54 y (.mk tk tn ts tl) _) gA55 gT56 (fun U y y' k hs x => AcG.kp _ _ _ U y y' _ _ k hs x) (fun U y y' k hs x => TmG.kp _ _ _ U y y' _ _ k hs x) gS58 gS59 gd57
  have n68 : _ ≤ h61.length := k60.1
  ((try simp only [n1, n2, n3, n4, n5, n6] at d); (with_reducible repeat first | refine W.a1 d ?_ | refine W.a2 ?_ | refine W.a3 ?_ | refine W.bo ?_ | refine W.a5 d fun hw d lw kw => ?_ | refine W.a6 d ?_ | refine W.a7 ?_ | refine W.a8 ?_))
  ((try simp only [n1, n2, n3, n4, n5, n6] at d); (with_reducible repeat first | refine W.a1 d ?_ | refine W.a2 ?_ | refine W.a3 ?_ | refine W.bo ?_ | refine W.a5 d fun hw d lw kw => ?_ | refine W.a6 d ?_ | refine W.a7 ?_ | refine W.a8 ?_); (refine W.nD d fun g0 d _ => ?_); (with_reducible repeat first | refine W.a1 d ?_ | refine W.a2 ?_ | refine W.a3 ?_ | refine W.bo ?_ | refine W.a5 d fun hw d lw kw => ?_ | refine W.a6 d ?_ | refine W.a7 ?_ | refine W.a8 ?_); (refine W.nD d fun g1 d _ => ?_); (with_reducible repeat first | refine W.a1 d ?_ | refine W.a2 ?_ | refine W.a3 ?_ | refine W.bo ?_ | refine W.a5 d fun hw d lw kw => ?_ | refine W.a6 d ?_ | refine W.a7 ?_ | refine W.a8 ?_))
  apply W.jb false d
  · ((try simp only [n1, n2, n3, n4, n5, n6] at d); (with_reducible repeat first | refine W.a1 d ?_ | refine W.a2 ?_ | refine W.a3 ?_ | refine W.bo ?_ | refine W.a5 d fun hw d lw kw => ?_ | refine W.a6 d ?_ | refine W.a7 ?_ | refine W.a8 ?_))
    have x69 : AcG base (f + 2) _ _ RA _ := (d.rs (i := 7) rfl)
    have x70 : AcG base (f + 2) _ _ RA _ := (d.rs (i := 3) rfl)
    obtain ⟨h71, e72, k73⟩ := eqActor_run (base := base) rLe x69.acR x70.acR d.ge
    have n74 := k73.1
    have d := d.kN k73
    refine W.bs e72 ?_
    ((try simp only [n1, n2, n3, n4, n5, n6] at d); (with_reducible repeat first | refine W.a1 d ?_ | refine W.a2 ?_ | refine W.a3 ?_ | refine W.bo ?_ | refine W.a5 d fun hw d lw kw => ?_ | refine W.a6 d ?_ | refine W.a7 ?_ | refine W.a8 ?_))
    refine W.ifF (by decide) ?_
    ((try simp only [n1, n2, n3, n4, n5, n6] at d); (with_reducible repeat first | refine W.a1 d ?_ | refine W.a2 ?_ | refine W.a3 ?_ | refine W.bo ?_ | refine W.a5 d fun hw d lw kw => ?_ | refine W.a6 d ?_ | refine W.a7 ?_ | refine W.a8 ?_))
    have x75 : TmG base (f + 1 + 1) _ _ (.mk tk tn ts tl) _ := (d.rs (i := 8) rfl)
    have x76 : TmG base (f + 1 + 1) _ _ (.mk tk tn ts tl) _ := (d.rs (i := 4) rfl)
    obtain ⟨h77, e78, k79⟩ := eqAct_run (base := base) x75.tmR x76.tmR d.ge
    have n80 := k79.1
    have d := d.kN k79
    refine W.bs e78 ?_
    ((try simp only [n1, n2, n3, n4, n5, n6] at d); (with_reducible repeat first | refine W.a1 d ?_ | refine W.a2 ?_ | refine W.a3 ?_ | refine W.bo ?_ | refine W.a5 d fun hw d lw kw => ?_ | refine W.a6 d ?_ | refine W.a7 ?_ | refine W.a8 ?_))
    exact W.lb rfl (by simp) (kN k73 k79)
  intro h81 d n82
  ((try simp only [n1, n2, n3, n4, n5, n6] at d); (with_reducible repeat first | refine W.a1 d ?_ | refine W.a2 ?_ | refine W.a3 ?_ | refine W.bo ?_ | refine W.a5 d fun hw d lw kw => ?_ | refine W.a6 d ?_ | refine W.a7 ?_ | refine W.a8 ?_))
  refine W.ifF (by decide) ?_
  ((try simp only [n1, n2, n3, n4, n5, n6] at d); (with_reducible repeat first | refine W.a1 d ?_ | refine W.a2 ?_ | refine W.a3 ?_ | refine W.bo ?_ | refine W.a5 d fun hw d lw kw => ?_ | refine W.a6 d ?_ | refine W.a7 ?_ | refine W.a8 ?_))
  obtain ⟨h83, e84, o82, k85, _⟩ := toInsS_run (base := base) hl0' (hc0.keepN d.kb) d.ge
  have n86 := k85.1
  have d := d.call k85 (· = List.length _) _ o82 Hs.own_kp (fun b hb => by subst hb; omega)
  refine W.bs e84 ?_
  ((try simp only [n1, n2, n3, n4, n5, n6] at d); (with_reducible repeat first | refine W.a1 d ?_ | refine W.a2 ?_ | refine W.a3 ?_ | refine W.bo ?_ | refine W.a5 d fun hw d lw kw => ?_ | refine W.a6 d ?_ | refine W.a7 ?_ | refine W.a8 ?_))
  obtain ⟨h87, e88, k89⟩ := eqInsS_run (base := base) (l := l0) hl0 (Own.sl (d.rs (i := 5) rfl)) (Own.sl (d.rs (i := 9) rfl)) d.ge
  have n90 := k89.1
  have d := d.kN k89
  refine W.bs e88 ?_
  ((try simp only [n1, n2, n3, n4, n5, n6] at d); (with_reducible repeat first | refine W.a1 d ?_ | refine W.a2 ?_ | refine W.a3 ?_ | refine W.bo ?_ | refine W.a5 d fun hw d lw kw => ?_ | refine W.a6 d ?_ | refine W.a7 ?_ | refine W.a8 ?_))
  refine W.ifF (by decide) ?_
  ((try simp only [n1, n2, n3, n4, n5, n6] at d); (with_reducible repeat first | refine W.a1 d ?_ | refine W.a2 ?_ | refine W.a3 ?_ | refine W.bo ?_ | refine W.a5 d fun hw d lw kw => ?_ | refine W.a6 d ?_ | refine W.a7 ?_ | refine W.a8 ?_))
  obtain ⟨cs91, h93, e94, x92, k95⟩ := toActor_run (base := base) hB1 (d.rs (i := 0) rfl) d.ge (d.rlt (i := 0) rfl)
  have n96 := k95.1
  obtain ⟨_, _, _, rfl⟩ := x92.form2
  have d := d.callP (AcG.kp _ _) k95 x92
  refine W.bs e94 ?_
  ((try simp only [n1, n2, n3, n4, n5, n6] at d); (with_reducible repeat first | refine W.a1 d ?_ | refine W.a2 ?_ | refine W.a3 ?_ | refine W.bo ?_ | refine W.a5 d fun hw d lw kw => ?_ | refine W.a6 d ?_ | refine W.a7 ?_ | refine W.a8 ?_))
  have x97 : AcG base (f + 1) _ _ A1 _ := (d.rs (i := 6) rfl)
  have x98 : AcG base (f + 1) _ _ A1 _ := (d.rs (i := 10) rfl)
  obtain ⟨h99, e100, k101⟩ := eqActor_run (base := base) hB1.Le x97.acR x98.acR d.ge
  have n102 := k101.1
  have d := d.kN k101
  refine W.bs e100 ?_
  ((try simp only [n1, n2, n3, n4, n5, n6] at d); (with_reducible repeat first | refine W.a1 d ?_ | refine W.a2 ?_ | refine W.a3 ?_ | refine W.bo ?_ | refine W.a5 d fun hw d lw kw => ?_ | refine W.a6 d ?_ | refine W.a7 ?_ | refine W.a8 ?_))
  refine W.ifF (by decide) ?_
  ((try simp only [n1, n2, n3, n4, n5, n6] at d); (with_reducible repeat first | refine W.a1 d ?_ | refine W.a2 ?_ | refine W.a3 ?_ | refine W.bo ?_ | refine W.a5 d fun hw d lw kw => ?_ | refine W.a6 d ?_ | refine W.a7 ?_ | refine W.a8 ?_))
  obtain ⟨y103, h104, e105, _, _, _, k106⟩ := markInsS_run (base := base) (k := 1) hl0' (d.rs (i := 5) rfl) (by omega) (by omega)
  have n107 := k106.1
  have d := d.junk (i := 5) rfl rfl k106 (fun b hb => .inl (blk_at0.1 hb))
  refine W.bs e105 ?_
  ((try simp only [n1, n2, n3, n4, n5, n6] at d); (with_reducible repeat first | refine W.a1 d ?_ | refine W.a2 ?_ | refine W.a3 ?_ | refine W.bo ?_ | refine W.a5 d fun hw d lw kw => ?_ | refine W.a6 d ?_ | refine W.a7 ?_ | refine W.a8 ?_))
  have x108 : AcG base (f + 1) _ _ A1 _ := (d.rs (i := 6) rfl)
  obtain ⟨y109, h110, e111, _, _, _, k112⟩ := markActor_run (base := base) (k := (1 + 6 * (l0.length : Int))) hB1.Le x108.acD (fun b hb => ⟨Nat.le_trans hb0 ((d.rfr (i := 6) rfl rfl b hb).resolve_left fun h => h), d.rlt (i := 6) rfl b hb⟩) d.ge (by omega) (by omega)
  have n113 := k112.1
  have d := d.junk (i := 6) rfl rfl k112 (fun b hb => .inl hb)
  refine W.bs e111 ?_
  ((try simp only [n1, n2, n3, n4, n5, n6] at d); (with_reducible repeat first | refine W.a1 d ?_ | refine W.a2 ?_ | refine W.a3 ?_ | refine W.bo ?_ | refine W.a5 d fun hw d lw kw => ?_ | refine W.a6 d ?_ | refine W.a7 ?_ | refine W.a8 ?_))
  apply W.jb false d
  · ((try simp only [n1, n2, n3, n4, n5, n6] at d); (with_reducible repeat first | refine W.a1 d ?_ | refine W.a2 ?_ | refine W.a3 ?_ | refine W.bo ?_ | refine W.a5 d fun hw d lw kw => ?_ | refine W.a6 d ?_ | refine W.a7 ?_ | refine W.a8 ?_))
    refine W.ifF (by simp; omega) ?_
    ((try simp only [n1, n2, n3, n4, n5, n6] at d); (with_reducible repeat first | refine W.a1 d ?_ | refine W.a2 ?_ | refine W.a3 ?_ | refine W.bo ?_ | refine W.a5 d fun hw d lw kw => ?_ | refine W.a6 d ?_ | refine W.a7 ?_ | refine W.a8 ?_))
    have x114 : AcG base (f + 2) _ _ RA _ := (d.rs (i := 7) rfl)
    have x115 : AcG base (f + 2) _ _ RA _ := (d.rs (i := 3) rfl)
    obtain ⟨h116, e117, k118⟩ := eqActor_run (base := base) rLe x114.acR x115.acR d.ge
    have n119 := k118.1
    have d := d.kN k118
    refine W.bs e117 ?_
    ((try simp only [n1, n2, n3, n4, n5, n6] at d); (with_reducible repeat first | refine W.a1 d ?_ | refine W.a2 ?_ | refine W.a3 ?_ | refine W.bo ?_ | refine W.a5 d fun hw d lw kw => ?_ | refine W.a6 d ?_ | refine W.a7 ?_ | refine W.a8 ?_))
    refine W.ifF (by decide) ?_
    ((try simp only [n1, n2, n3, n4, n5, n6] at d); (with_reducible repeat first | refine W.a1 d ?_ | refine W.a2 ?_ | refine W.a3 ?_ | refine W.bo ?_ | refine W.a5 d fun hw d lw kw => ?_ | refine W.a6 d ?_ | refine W.a7 ?_ | refine W.a8 ?_))
    have x120 : TmG base (f + 1 + 1) _ _ (.mk tk tn ts tl) _ := (d.rs (i := 8) rfl)
    have x121 : TmG base (f + 1 + 1) _ _ (.mk tk tn ts tl) _ := (d.rs (i := 4) rfl)
    obtain ⟨h122, e123, k124⟩ := eqAct_run (base := base) x120.tmR x121.tmR d.ge
    have n125 := k124.1
    have d := d.kN k124
    refine W.bs e123 ?_
    ((try simp only [n1, n2, n3, n4, n5, n6] at d); (with_reducible repeat first | refine W.a1 d ?_ | refine W.a2 ?_ | refine W.a3 ?_ | refine W.bo ?_ | refine W.a5 d fun hw d lw kw => ?_ | refine W.a6 d ?_ | refine W.a7 ?_ | refine W.a8 ?_))
    exact W.lb rfl (by simp) (kN k118 k124)
  intro h126 d n127
  ((try simp only [n1, n2, n3, n4, n5, n6] at d); (with_reducible repeat first | refine W.a1 d ?_ | refine W.a2 ?_ | refine W.a3 ?_ | refine W.bo ?_ | refine W.a5 d fun hw d lw kw => ?_ | refine W.a6 d ?_ | refine W.a7 ?_ | refine W.a8 ?_))
  refine W.ifF (by decide) ?_
  ((try simp only [n1, n2, n3, n4, n5, n6] at d); (with_reducible repeat first | refine W.a1 d ?_ | refine W.a2 ?_ | refine W.a3 ?_ | refine W.bo ?_ | refine W.a5 d fun hw d lw kw => ?_ | refine W.a6 d ?_ | refine W.a7 ?_ | refine W.a8 ?_))
  have x128 : AcG base (f + 2) _ _ RA _ := (d.rs (i := 7) rfl)
  obtain ⟨A129, h133, e134, D132, L130, M131, k135⟩ := markActor_run (base := base) (k := 1) rLe x128.acD (fun b hb => ⟨Nat.le_trans hb0 ((d.rfr (i := 7) rfl rfl b hb).resolve_left fun h => h), d.rlt (i := 7) rfl b hb⟩) d.ge (by omega) (by have := rMc; omega)
  have n136 := k135.1
  have d := d.updP (AcD.kp _ _) (Upd.at (i := 7) rfl) rfl k135 D132 (fun b hb => .inl hb) (fun b hb => .inl hb)
  refine W.bs e134 ?_
  ((try simp only [n1, n2, n3, n4, n5, n6] at d); (with_reducible repeat first | refine W.a1 d ?_ | refine W.a2 ?_ | refine W.a3 ?_ | refine W.bo ?_ | refine W.a5 d fun hw d lw kw => ?_ | refine W.a6 d ?_ | refine W.a7 ?_ | refine W.a8 ?_))
  have x137 : TmG base (f + 1 + 1) _ _ (.mk tk tn ts tl) _ := (d.rs (i := 8) rfl)
  obtain ⟨l138, h141, e142, D140, M139, k143⟩ := markAct_run (base := base) (k := (1 + mcA (f + 2) RA)) x137.d (fun b hb => ⟨Nat.le_trans hb0 ((d.rfr (i := 8) rfl rfl b hb).resolve_left fun h => h), d.rlt (i := 8) rfl b hb⟩) d.ge (by have := rMc; omega) (by have := rMc; omega)
  have n144 := k143.1
  have d := d.updP (TmD.kp _) (Upd.at (i := 8) rfl) rfl k143 D140 (fun b hb => .inl hb) (fun b hb => .inl hb)
  refine W.bs e142 ?_
  ((try simp only [n1, n2, n3, n4, n5, n6] at d); (with_reducible repeat first | refine W.a1 d ?_ | refine W.a2 ?_ | refine W.a3 ?_ | refine W.bo ?_ | refine W.a5 d fun hw d lw kw => ?_ | refine W.a6 d ?_ | refine W.a7 ?_ | refine W.a8 ?_))
  have x145 : AcD base (f + 2) _ _ A129 _ := (d.rs (i := 7) rfl)
  obtain ⟨h146, e147, k148⟩ := heldActor_run (base := base) L130 M131 (by omega) (by have := rMc; omega) x145.acR d.ge
  have n149 := k148.1
  have d := d.kN k148
  refine W.bs e147 ?_
  ((try simp only [n1, n2, n3, n4, n5, n6] at d); (with_reducible repeat first | refine W.a1 d ?_ | refine W.a2 ?_ | refine W.a3 ?_ | refine W.bo ?_ | refine W.a5 d fun hw d lw kw => ?_ | refine W.a6 d ?_ | refine W.a7 ?_ | refine W.a8 ?_))
  refine W.ifF (by simp; have := rMc; omega) ?_
  ((try simp only [n1, n2, n3, n4, n5, n6] at d); (with_reducible repeat first | refine W.a1 d ?_ | refine W.a2 ?_ | refine W.a3 ?_ | refine W.bo ?_ | refine W.a5 d fun hw d lw kw => ?_ | refine W.a6 d ?_ | refine W.a7 ?_ | refine W.a8 ?_))
  have x150 : TmD (f + 1 + 1) _ _ (.mk tk tn ts l138) _ := (d.rs (i := 8) rfl)
  obtain ⟨h151, e152, k153⟩ := heldAct_run (base := base) (TmD.tmR _ _ _ _ _ x150) M139 (by have := rMc; omega) (by have := rMc; omega) d.ge
  have n154 := k153.1
  have d := d.kN k153
  refine W.bs e152 ?_
  ((try simp only [n1, n2, n3, n4, n5, n6] at d); (with_reducible repeat first | refine W.a1 d ?_ | refine W.a2 ?_ | refine W.a3 ?_ | refine W.bo ?_ | refine W.a5 d fun hw d lw kw => ?_ | refine W.a6 d ?_ | refine W.a7 ?_ | refine W.a8 ?_))
  refine W.ifF (by simp; have := rMc; omega) ?_
  ((try simp only [n1, n2, n3, n4, n5, n6] at d); (with_reducible repeat first | refine W.a1 d ?_ | refine W.a2 ?_ | refine W.a3 ?_ | refine W.bo ?_ | refine W.a5 d fun hw d lw kw => ?_ | refine W.a6 d ?_ | refine W.a7 ?_ | refine W.a8 ?_))
  refine W.ifF (by simp) ?_
  ((try simp only [n1, n2, n3, n4, n5, n6] at d); (with_reducible repeat first | refine W.a1 d ?_ | refine W.a2 ?_ | refine W.a3 ?_ | refine W.bo ?_ | refine W.a5 d fun hw d lw kw => ?_ | refine W.a6 d ?_ | refine W.a7 ?_ | refine W.a8 ?_))
  obtain ⟨h155, e156, o154, k157, _⟩ := toInsS_run (base := base) hl0' (hc0.keepN d.kb) d.ge
  have n158 := k157.1
  have d := d.call k157 (· = List.length _) _ o154 Hs.own_kp (fun b hb => by subst hb; omega)
  refine W.bs e156 ?_
  ((try simp only [n1, n2, n3, n4, n5, n6] at d); (with_reducible repeat first | refine W.a1 d ?_ | refine W.a2 ?_ | refine W.a3 ?_ | refine W.bo ?_ | refine W.a5 d fun hw d lw kw => ?_ | refine W.a6 d ?_ | refine W.a7 ?_ | refine W.a8 ?_))
  obtain ⟨cs159, h161, e162, x160, k163⟩ := toActor_run (base := base) hB1 (d.rs (i := 0) rfl) d.ge (d.rlt (i := 0) rfl)
  have n164 := k163.1
  obtain ⟨_, _, _, rfl⟩ := x160.form2
  have d := d.callP (AcG.kp _ _) k163 x160
  refine W.bs e162 ?_
  ((try simp only [n1, n2, n3, n4, n5, n6] at d); (with_reducible repeat first | refine W.a1 d ?_ | refine W.a2 ?_ | refine W.a3 ?_ | refine W.bo ?_ | refine W.a5 d fun hw d lw kw => ?_ | refine W.a6 d ?_ | refine W.a7 ?_ | refine W.a8 ?_))
  have x181 : AcG base (f + 1) _ _ A1 _ := (d.rs (i := 12) rfl)
  refine W.wb (implStep_run (f := f) (next := v2) hL0 hl0 (Own.sl (d.rs (i := 11) rfl)) hB1 x181 (d.rlt (i := 12) rfl) d.ge) ?_
  rw [hR]
  rintro ⟨u, h175⟩ ⟨cs165, kk176, nn177, ss178, aa179, mm180, S167, T168, rfl, gA169, gT170, gd171, gS172, gS173, k174⟩
  obtain ⟨rfl, rfl, rfl, rfl⟩ := gT170.eq
  obtain ⟨_, _, _, rfl⟩ := gA169.form2
  have d := d.call2 k174 S167 T168 (fun y => AcG base (f + 2) S167 y RA _) (fun y => TmG base (f + 2) T168 y (.mk tk tn ts tl) _) gA169 gT170 (fun U y y' k hs x => AcG.kp _ _ _ U y y' _ _ k hs x) (fun U y y' k hs x => TmG.kp _ _ _ U y y' _ _ k hs x) gS172 gS173 gd171
  have n182 : _ ≤ h175.length := k174.1
  ((try simp only [n1, n2, n3, n4, n5, n6] at d); (with_reducible repeat first | refine W.a1 d ?_ | refine W.a2 ?_ | refine W.a3 ?_ | refine W.bo ?_ | refine W.a5 d fun hw d lw kw => ?_ | refine W.a6 d ?_ | refine W.a7 ?_ | refine W.a8 ?_))
  ((try simp only [n1, n2, n3, n4, n5, n6] at d); (with_reducible repeat first | refine W.a1 d ?_ | refine W.a2 ?_ | refine W.a3 ?_ | refine W.bo ?_ | refine W.a5 d fun hw d lw kw => ?_ | refine W.a6 d ?_ | refine W.a7 ?_ | refine W.a8 ?_); (refine W.nD d fun v0 d _ => ?_); (with_reducible repeat first | refine W.a1 d ?_ | refine W.a2 ?_ | refine W.a3 ?_ | refine W.bo ?_ | refine W.a5 d fun hw d lw kw => ?_ | refine W.a6 d ?_ | refine W.a7 ?_ | refine W.a8 ?_); (refine W.nD d fun v1 d _ => ?_); (with_reducible repeat first | refine W.a1 d ?_ | refine W.a2 ?_ | refine W.a3 ?_ | refine W.bo ?_ | refine W.a5 d fun hw d lw kw => ?_ | refine W.a6 d ?_ | refine W.a7 ?_ | refine W.a8 ?_))
  apply W.jb false d
  · ((try simp only [n1, n2, n3, n4, n5, n6] at d); (with_reducible repeat first | refine W.a1 d ?_ | refine W.a2 ?_ | refine W.a3 ?_ | refine W.bo ?_ | refine W.a5 d fun hw d lw kw => ?_ | refine W.a6 d ?_ | refine W.a7 ?_ | refine W.a8 ?_))
    have x183 : AcG base (f + 2) _ _ RA _ := (d.rs (i := 13) rfl)
    have x184 : AcG base (f + 2) _ _ RA _ := (d.rs (i := 3) rfl)
    obtain ⟨h185, e186, k187⟩ := eqActor_run (base := base) rLe x183.acR x184.acR d.ge
    have n188 := k187.1
    have d := d.kN k187
    refine W.bs e186 ?_
    ((try simp only [n1, n2, n3, n4, n5, n6] at d); (with_reducible repeat first | refine W.a1 d ?_ | refine W.a2 ?_ | refine W.a3 ?_ | refine W.bo ?_ | refine W.a5 d fun hw d lw kw => ?_ | refine W.a6 d ?_ | refine W.a7 ?_ | refine W.a8 ?_))
    refine W.ifF (by decide) ?_
    ((try simp only [n1, n2, n3, n4, n5, n6] at d); (with_reducible repeat first | refine W.a1 d ?_ | refine W.a2 ?_ | refine W.a3 ?_ | refine W.bo ?_ | refine W.a5 d fun hw d lw kw => ?_ | refine W.a6 d ?_ | refine W.a7 ?_ | refine W.a8 ?_))
    have x189 : TmG base (f + 1 + 1) _ _ (.mk tk tn ts tl) _ := (d.rs (i := 14) rfl)
    have x190 : TmG base (f + 1 + 1) _ _ (.mk tk tn ts tl) _ := (d.rs (i := 4) rfl)
    obtain ⟨h191, e192, k193⟩ := eqAct_run (base := base) x189.tmR x190.tmR d.ge
    have n194 := k193.1
    have d := d.kN k193
    refine W.bs e192 ?_
    ((try simp only [n1, n2, n3, n4, n5, n6] at d); (with_reducible repeat first | refine W.a1 d ?_ | refine W.a2 ?_ | refine W.a3 ?_ | refine W.bo ?_ | refine W.a5 d fun hw d lw kw => ?_ | refine W.a6 d ?_ | refine W.a7 ?_ | refine W.a8 ?_))
    exact W.lb rfl (by simp) (kN k187 k193)
  intro h195 d n196
  ((try simp only [n1, n2, n3, n4, n5, n6] at d); (with_reducible repeat first | refine W.a1 d ?_ | refine W.a2 ?_ | refine W.a3 ?_ | refine W.bo ?_ | refine W.a5 d fun hw d lw kw => ?_ | refine W.a6 d ?_ | refine W.a7 ?_ | refine W.a8 ?_))
  refine W.ifF (by decide) ?_
  ((try simp only [n1, n2, n3, n4, n5, n6] at d); (with_reducible repeat first | refine W.a1 d ?_ | refine W.a2 ?_ | refine W.a3 ?_ | refine W.bo ?_ | refine W.a5 d fun hw d lw kw => ?_ | refine W.a6 d ?_ | refine W.a7 ?_ | refine W.a8 ?_))
  have x197 : AcD base (f + 2) _ _ A129 _ := (d.rs (i := 7) rfl)
  obtain ⟨h198, e199, k200⟩ := heldActor_run (base := base) L130 M131 (by omega) (by have := rMc; omega) x197.acR d.ge
  have n201 := k200.1
  have d := d.kN k200
  refine W.bs e199 ?_
  ((try simp only [n1, n2, n3, n4, n5, n6] at d); (with_reducible repeat first | refine W.a1 d ?_ | refine W.a2 ?_ | refine W.a3 ?_ | refine W.bo ?_ | refine W.a5 d fun hw d lw kw => ?_ | refine W.a6 d ?_ | refine W.a7 ?_ | refine W.a8 ?_))
  refine W.ifF (by simp; have := rMc; omega) ?_
  ((try simp only [n1, n2, n3, n4, n5, n6] at d); (with_reducible repeat first | refine W.a1 d ?_ | refine W.a2 ?_ | refine W.a3 ?_ | refine W.bo ?_ | refine W.a5 d fun hw d lw kw => ?_ | refine W.a6 d ?_ | refine W.a7 ?_ | refine W.a8 ?_))
  have x202 : TmD (f + 1 + 1) _ _ (.mk tk tn ts l138) _ := (d.rs (i := 8) rfl)
  obtain ⟨h203, e204, k205⟩ := heldAct_run (base := base) (TmD.tmR _ _ _ _ _ x202) M139 (by have := rMc; omega) (by have := rMc; omega) d.ge
  have n206 := k205.1
  have d := d.kN k205
  refine W.bs e204 ?_
  ((try simp only [n1, n2, n3, n4, n5, n6] at d); (with_reducible repeat first | refine W.a1 d ?_ | refine W.a2 ?_ | refine W.a3 ?_ | refine W.bo ?_ | refine W.a5 d fun hw d lw kw => ?_ | refine W.a6 d ?_ | refine W.a7 ?_ | refine W.a8 ?_))
  refine W.ifF (by simp; have := rMc; omega) ?_
  ((try simp only [n1, n2, n3, n4, n5, n6] at d); (with_reducible repeat first | refine W.a1 d ?_ | refine W.a2 ?_ | refine W.a3 ?_ | refine W.bo ?_ | refine W.a5 d fun hw d lw kw => ?_ | refine W.a6 d ?_ | refine W.a7 ?_ | refine W.a8 ?_))
  refine W.ifF (by simp) ?_
  ((try simp only [n1, n2, n3, n4, n5, n6] at d); (with_reducible repeat first | refine W.a1 d ?_ | refine W.a2 ?_ | refine W.a3 ?_ | refine W.bo ?_ | refine W.a5 d fun hw d lw kw => ?_ | refine W.a6 d ?_ | refine W.a7 ?_ | refine W.a8 ?_))
  exact W.ret rfl
theorem stepActor_entry {base : Nat} {h : AH} {f f2 : Nat} {u : Value} {cs : List Value} {v : Int} (x : Rd Try.prog h f 22 [u]) (y : Rd Try.prog h f2 49 cs) (hb : base ≤ h.length) : ∃ h', run (Et base) 4 [u, .agg cs.toArray, .int .i64 v] h = some (.bool true, h') := by
  obtain ⟨a, l, rfl, hl, hs, hL⟩ := rd_ins x
  obtain ⟨A, hA, hM⟩ := rd_actorF y
  simp only [maxLen] at hl hL
  obtain ⟨⟨v, h'⟩, e, q⟩ := stepActor_law (f := f2) (v2 := v) (fun x hx => by have := hL x hx; omega) (by omega) hs hM (hA.le (by omega)) (fun b hb => hb) hb
  simp only at q
  exact ⟨h', by rw [e, q]⟩
end Go.Proofs.Ytolcnednfbbnnaa.Am

