/- What the functions of this law compute, lemma by lemma, up to the law.
Conditions: none. -/
import Derived.Test.YtolcnednfbbnnaaP1
import Derived.IntWalk

set_option linter.unusedSimpArgs false
set_option linter.unusedVariables false
namespace Go.Proofs.Ytolcnednfbbnnaa.Am
open Go Go.RowKit

/-- A system: its code, its actors, the next number, what was said. -/
structure Pl where
  code : List In
  acs : List Ac
  next : Int
  out : List Sd
abbrev plV (a : Option Addr) (n : Nat) (b : Option Addr) (m : Nat) (v : Int) (g : Option Addr) (q : Nat) : List Value := [.slice a n n, .slice b m m, .int .i64 v, .slice g q q]
/-- A system that can be read. -/
def PlR (h : AH) (p : Nat → Prop) (f : Nat) (P : Pl) (cs : List Value) : Prop :=
  ∃ a b g, cs = plV a P.code.length b P.acs.length P.next g P.out.length ∧ Sl h a (insR P.code) ∧ (insR P.code = [] ∨ ∀ x, blk a x → p x) ∧ AsR h p f P.acs b ∧ SsR h p f P.out g
def PlM (P : Pl) : Prop := P.code.length ≤ 9223372036854775807 ∧ (∀ x ∈ P.code, x.s.size ≤ 9223372036854775807) ∧ P.acs.length ≤ 9223372036854775807 ∧ (∀ A ∈ P.acs, AcM A) ∧ P.out.length ≤ 9223372036854775807
/-- A system all of whose rows are its own. -/
def PlD (base f : Nat) (S : Fp) (h : AH) (P : Pl) (cs : List Value) : Prop :=
  ∃ (a b g : Option Addr) (S1 S2 S3 : Fp), cs = plV a P.code.length b P.acs.length P.next g P.out.length ∧ Own base 82 h a (insR P.code) ∧ (∀ x, blk a x → S1 x) ∧ RowD 5 (AcD base f) S2 h P.acs b ∧ RowD 6 (SdD f) S3 h P.out g ∧
    (∀ x, S1 x → S x) ∧ (∀ x, S2 x → S x) ∧ (∀ x, S3 x → S x) ∧ (∀ x, S1 x → ¬ S2 x) ∧ (∀ x, S1 x → ¬ S3 x) ∧ (∀ x, S2 x → ¬ S3 x)
/-- The same, and its rows may grow. -/
def PlG (base f : Nat) (S : Fp) (h : AH) (P : Pl) (cs : List Value) : Prop :=
  ∃ (a b g : Option Addr) (S1 S2 S3 : Fp), cs = plV a P.code.length b P.acs.length P.next g P.out.length ∧ Own base 82 h a (insR P.code) ∧ (∀ x, blk a x → S1 x) ∧ RowO base 52 5 (AcG base f) S2 h P.acs b ∧ RowO base 127 6 (SdD f) S3 h P.out g ∧
    (∀ x, S1 x → S x) ∧ (∀ x, S2 x → S x) ∧ (∀ x, S3 x → S x) ∧ (∀ x, S1 x → ¬ S2 x) ∧ (∀ x, S1 x → ¬ S3 x) ∧ (∀ x, S2 x → ¬ S3 x)
theorem PlG.plD {base f : Nat} {S : Fp} {h : AH} {P : Pl} {cs : List Value} (x : PlG base f S h P cs) : PlD base f S h P cs := by
  obtain ⟨a, b, g, S1, S2, S3, e, h1, h2, h3, h4, h5⟩ := x
  exact ⟨a, b, g, S1, S2, S3, e, h1, h2, h3.d.imp fun _ _ _ _ => AcG.acD, h4.d, h5⟩
theorem PlG.kp (base f : Nat) : Kp (PlG base f) := fun S U h h' P cs k hs x => by
  obtain ⟨a, b, g, S1, S2, S3, e, h1, h2, h3, h4, s1, s2, s3, d1, d2, d3⟩ := x
  exact ⟨a, b, g, S1, S2, S3, e, h1.keep k fun b hb => hs b (s1 b (h2 b hb)), h2, h3.keep (AcG.kp _ _) k fun b hb => hs b (s2 b hb), h4.keep (SdD.kp _) k fun b hb => hs b (s3 b hb), s1, s2, s3, d1, d2, d3⟩
theorem SsR.monoP {h : AH} {p r : Nat → Prop} {f : Nat} {l : List Sd} {a : Option Addr} (x : SsR h p f l a) (hq : ∀ b, p b → r b) : SsR h r f l a := by
  obtain ⟨vs, h1, h2, h3, h4⟩ := x
  exact ⟨vs, h1, h2.imp id fun g b hb => hq b (g b hb), h3, fun i t hi => by
    obtain ⟨cs, e, hm⟩ := h4 i t hi
    exact ⟨cs, e, hm.mono hq _ _ _⟩⟩
theorem AsR.monoP {h : AH} {p r : Nat → Prop} {f : Nat} {l : List Ac} {a : Option Addr} (x : AsR h p f l a) (hq : ∀ b, p b → r b) : AsR h r f l a := by
  obtain ⟨vs, h1, h2, h3, h4⟩ := x
  exact ⟨vs, h1, h2.imp id fun g b hb => hq b (g b hb), h3, fun i t hi => (h4 i t hi).mono hq⟩
theorem PlR.keep {h h' : AH} {p S : Nat → Prop} (k : KB S h h') (hp : ∀ b, p b → ¬ S b) {f : Nat} {P : Pl} {cs : List Value} (x : PlR h p f P cs) : PlR h' p f P cs := by
  obtain ⟨a, b, g, e, h1, h2, h3, h4⟩ := x
  refine ⟨a, b, g, e, ?_, h2, h3.keep k hp, h4.keep k hp⟩
  rcases h2 with e | h2
  · exact .inl e
  · exact h1.keep k fun b hb hs => hp b (h2 b hb) hs
theorem PlR.keepN {h h' : AH} {p : Nat → Prop} (k : KB NoB h h') {f : Nat} {P : Pl} {cs : List Value} (x : PlR h p f P cs) : PlR h' p f P cs := x.keep k fun _ _ h => h
theorem PlD.plR {base f : Nat} {S : Fp} {h : AH} {P : Pl} {cs : List Value} (x : PlD base f S h P cs) : PlR h S f P cs := by
  obtain ⟨a, b, g, S1, S2, S3, e, h1, h2, h3, h4, s1, s2, s3, _⟩ := x
  exact ⟨a, b, g, e, h1.sl, .inr fun x hx => s1 x (h2 x hx), h3.asR.monoP s2, h4.ssR.monoP s3⟩
theorem PlD.kp (base f : Nat) : Kp (PlD base f) := fun S U h h' P cs k hs x => by
  obtain ⟨a, b, g, S1, S2, S3, e, h1, h2, h3, h4, s1, s2, s3, d1, d2, d3⟩ := x
  exact ⟨a, b, g, S1, S2, S3, e, h1.keep k fun b hb => hs b (s1 b (h2 b hb)), h2, h3.keep (AcD.kp _ _) k fun b hb => hs b (s2 b hb), h4.keep (SdD.kp _) k fun b hb => hs b (s3 b hb), s1, s2, s3, d1, d2, d3⟩
theorem PlD.mo (base f : Nat) : Mo (PlD base f) := fun S S' h P cs hs x => by
  obtain ⟨a, b, g, S1, S2, S3, e, h1, h2, h3, h4, s1, s2, s3, d1, d2, d3⟩ := x
  exact ⟨a, b, g, S1, S2, S3, e, h1, h2, h3, h4, fun x hx => hs x (s1 x hx), fun x hx => hs x (s2 x hx), fun x hx => hs x (s3 x hx), d1, d2, d3⟩
theorem PlD.form {base f : Nat} {S : Fp} {h : AH} {P : Pl} {cs : List Value} (x : PlD base f S h P cs) : ∃ a n b m v g q, cs = plV a n b m v g q := by
  obtain ⟨a, b, g, S1, S2, S3, e, _⟩ := x
  exact ⟨_, _, _, _, _, _, _, e⟩

theorem PlG.plR {base f : Nat} {S : Fp} {h : AH} {P : Pl} {cs : List Value} (x : PlG base f S h P cs) : PlR h S f P cs := x.plD.plR
theorem PlG.form {base f : Nat} {S : Fp} {h : AH} {P : Pl} {cs : List Value} (x : PlG base f S h P cs) : ∃ a n b m v g q, cs = plV a n b m v g q := x.plD.form

theorem eqPlain_run {base f f2 : Nat} {h : AH} {p p2 : Nat → Prop} {P : Pl} {cs cs2 : List Value} (hM : PlM P) (hL : ∀ A ∈ P.acs, A.Le) (x : PlR h p f P cs) (x2 : PlR h p2 f2 P cs2) (hb : base ≤ h.length) :
    ∃ h', run (Et base) 13 [.agg cs.toArray, .agg cs2.toArray] h = some (.bool true, h') ∧ KB NoB h h' := by
  obtain ⟨a, b, g, rfl, hr, _, hx, ho⟩ := x
  obtain ⟨a2, b2, g2, rfl, hr2, _, hx2, ho2⟩ := x2
  obtain ⟨m1, m2, m3, m4, m5⟩ := hM
  obtain ⟨o1, k1, q1⟩ := box_own (base := base) (t := 32) (h := h) (cs := plV a P.code.length b P.acs.length P.next g P.out.length) hb rfl
  generalize hh1 : h ++ [some (⟨plV a P.code.length b P.acs.length P.next g P.out.length, 32⟩ : Blk)] = h1 at o1 k1 q1
  obtain ⟨o2, k2, q2⟩ := box_own (base := base) (t := 32) (h := h1) (cs := plV a2 P.code.length b2 P.acs.length P.next g2 P.out.length) (by omega) rfl
  generalize hh2 : h1 ++ [some (⟨plV a2 P.code.length b2 P.acs.length P.next g2 P.out.length, 32⟩ : Blk)] = h2 at o2 k2 q2
  have k02 := kN k1 k2
  have o1 := o1.keepN k2
  obtain ⟨h3, e3, k3⟩ := eqInsS_run (base := base) (h := h2) m1 (hr.keepN k02) (hr2.keepN k02) (by omega)
  have k03 := kN k02 k3
  have n3 := k3.1
  obtain ⟨h4, e4, k4⟩ := eqActorS_run (base := base) m3 hL (hx.keepN k03) (hx2.keepN k03) (by omega)
  have k04 := kN k03 k4
  have n4 := k4.1
  obtain ⟨h5, e5, k5⟩ := eqSaidS_run (base := base) m5 (ho.keep k04 fun _ _ h => h) (ho2.keep k04 fun _ _ h => h) (by omega)
  refine ⟨h5, r13 (lets fun y ey => ?_), kN k04 k5⟩
  rw [hh1] at ey
  subst ey
  refine lets fun y ey => ?_
  rw [hh2] at ey
  subst ey
  refine bS (o1.at0 (i := 0) rfl) (bS (o2.at0 (i := 0) rfl) (bs e3 (bB rfl (ifF (by decide) ?_))))
  refine bS ((o1.keepN k3).at0 (i := 1) rfl) (bS ((o2.keepN k3).at0 (i := 1) rfl) (bs e4 (bB rfl (ifF (by decide) ?_))))
  refine bI (((o1.keepN k3).keepN k4).at0 (i := 2) rfl) (bI (((o2.keepN k3).keepN k4).at0 (i := 2) rfl) (ifF (by simp) ?_))
  exact bS (((o1.keepN k3).keepN k4).at0 (i := 3) rfl) (bS (((o2.keepN k3).keepN k4).at0 (i := 3) rfl) (bs e5 (bB rfl (ifF (by decide) rfl))))

end Go.Proofs.Ytolcnednfbbnnaa.Am


set_option linter.unusedSimpArgs false
set_option linter.unusedVariables false
namespace Go.Proofs.Ytolcnednfbbnnaa.Am
open Go Go.RowKit

theorem heldInsS_loop {base : Nat} {ys : List In} {a : Option Addr} {k0 : Int} (hk0 : 0 ≤ k0) (hkn : k0 + 6 * (ys.length : Int) ≤ 1000000000) (hm : ∀ j : Nat, j < ys.length → ys[j]? = some (markI (k0 + 6 * (j : Int)))) : ∀ (d i : Nat) (h : AH), i + d = ys.length → Sl h a (insR ys) → base ≤ h.length →
    ∃ h', loopL (B56_0 base) [some (.slice a ys.length ys.length), some (.int .i64 (k0 + 6 * (i : Int))), some (.int .i64 (i : Int))] h = some (2, [some (.int .i64 (k0 + 6 * (ys.length : Int)))], h') ∧ KB NoB h h' := by
  intro d
  induction d with
  | zero =>
    intro i h hi hs hb
    have : i = ys.length := by omega
    subst this
    refine ⟨h, loop_off (by decide) ?_, KB.refl _ _⟩
    rw [B56_0_eq]
    exact ifF (by simp) rfl
  | succ d ih =>
    intro i h hi hs hb
    have hlt : i < ys.length := by omega
    obtain ⟨ad, rfl, g0, g1, g2, g3, g4, g5⟩ := In.get hs hlt
    have hx : ys[i] = markI (k0 + 6 * (i : Int)) := by
      have := hm i hlt
      rw [List.getElem?_eq_getElem hlt] at this
      injection this
    rw [hx] at g0 g1 g2 g3 g4 g5
    generalize hk : k0 + 6 * (i : Int) = k at g0 g1 g2 g3 g4 g5
    obtain ⟨h1, e1, kk1⟩ := markText_run (base := base) (h := h) (k := k + 1 + 1 + 1 + 1 + 1) (by omega)
    have n1 := kk1.1
    obtain ⟨h2, e2, kk2⟩ := ih (i + 1) h1 (by omega) (hs.keepN kk1) (by omega)
    rw [show k0 + 6 * ((i + 1 : Nat) : Int) = k + 6 from by omega] at e2
    refine ⟨h2, loop_on ?_ e2, kN kk1 kk2⟩
    rw [B56_0_eq]
    have hI : (0 : Int) ≤ (i : Int) ∧ (i : Int) < ((ys.length : Nat) : Int) := ⟨by omega, by omega⟩
    refine ifT (decide_eq_true hI.2) (ifT hI (bs rfl ?_))
    simp only [Int.toNat_natCast]
    rw [w64i (n := k + 1) (by omega) (by omega), w64i (n := k + 1 + 1) (by omega) (by omega), w64i (n := k + 1 + 1 + 1) (by omega) (by omega), w64i (n := k + 1 + 1 + 1 + 1) (by omega) (by omega), w64i (n := k + 1 + 1 + 1 + 1 + 1) (by omega) (by omega), w64i (n := k + 1 + 1 + 1 + 1 + 1 + 1) (by omega) (by omega), w64i (n := (i : Int) + 1) (by omega) (by omega)]
    refine bI g0 (ifF (by simp [markI]) (ifT hI (bs rfl (bI g1 (ifF (by simp [markI]) (ifT hI (bs rfl (bI g2 (ifF (by simp [markI]) (ifT hI (bs rfl (bI g3 (ifF (by simp [markI]) (ifT hI (bs rfl (bI g4 (ifF (by simp [markI]) (ifT hI (bs rfl (bT g5 (bs e1 (bT rfl ?_))))))))))))))))))))))
    rw [gate_pos (same_keep kk1 g5)]
    refine ifF (by simp [markI]) ?_
    rw [show k + 1 + 1 + 1 + 1 + 1 + 1 = k + 6 from by omega]
    rfl
theorem heldInsS_run {base : Nat} {h : AH} {ys : List In} {a : Option Addr} {k : Int} (hk0 : 0 ≤ k) (hkn : k + 6 * (ys.length : Int) ≤ 1000000000) (hm : ∀ j : Nat, j < ys.length → ys[j]? = some (markI (k + 6 * (j : Int)))) (hs : Sl h a (insR ys)) (hb : base ≤ h.length) :
    ∃ h', run (Et base) 56 [.slice a ys.length ys.length, .int .i64 k] h = some (.int .i64 (k + 6 * (ys.length : Int)), h') ∧ KB NoB h h' := by
  obtain ⟨h', e, kk⟩ := heldInsS_loop (base := base) hk0 hkn hm ys.length 0 h (by omega) hs hb
  rw [show k + 6 * ((0 : Nat) : Int) = k from by omega, show ((0 : Nat) : Int) = 0 from rfl] at e
  exact ⟨h', r56 (bs e (ifF (show ¬ (2 : Nat) = 1 by decide) (ifT rfl (bI rfl rfl)))), kk⟩
end Go.Proofs.Ytolcnednfbbnnaa.Am


set_option linter.unusedSimpArgs false
set_option linter.unusedVariables false
namespace Go.Proofs.Ytolcnednfbbnnaa.Am
open Go Go.RowKit

def mcAs (f : Nat) : List Ac → Int
  | [] => 0
  | A :: r => 2 + mcA f A + mcAs f r
theorem mcA_nn (f : Nat) (A : Ac) : 0 ≤ mcA f A := by unfold mcA mcL; omega
theorem mcAs_nn (f : Nat) : ∀ l, 0 ≤ mcAs f l
  | [] => Int.le_refl _
  | A :: r => by have := mcA_nn f A; have := mcAs_nn f r; rw [mcAs]; omega
inductive IsMAs : List Ac → Int → Int → Prop
  | nil (k : Int) : IsMAs [] k k
  | cons {k k1 k2 : Int} {A : Ac} {r : List Ac} : A.pid = k → A.pc = k + 1 → IsMA A (k + 2) k1 → IsMAs r k1 k2 → IsMAs (A :: r) k k2
theorem IsMA.le {A : Ac} {k k' : Int} (x : IsMA A k k') : k ≤ k' := by
  obtain ⟨k1, k2, m1, m2, _, rfl⟩ := x
  have := m1.le
  have := m2.le
  omega
theorem IsMAs.le {l : List Ac} {k k' : Int} (x : IsMAs l k k') : k ≤ k' := by
  induction x with
  | nil => exact Int.le_refl _
  | cons _ _ m _ ih2 => have := m.le; omega
theorem markActorS_loop {base f n : Nat} (hn : n ≤ maxLen) {S : Fp} {a : Option Addr} : ∀ (r done : List Ac) (h : AH) (k : Int), (∀ A ∈ r, A.Le) → done.length + r.length = n → RowD 5 (AcD base f) S h (done ++ r) a → (∀ b, S b → base ≤ b ∧ b < h.length) → 0 ≤ k → k + mcAs f r ≤ 1000000000 →
    ∃ r' h', loopL (B54_0 base) [some (.slice a n n), some (.int .i64 k), some (.int .i64 (done.length : Int))] h = some (2, [some (.int .i64 (k + mcAs f r))], h') ∧ RowD 5 (AcD base f) S h' (done ++ r') a ∧ r'.length = r.length ∧ (∀ A ∈ r', A.Le) ∧ IsMAs r' k (k + mcAs f r) ∧ KB S h h' := by
  simp only [maxLen] at hn
  intro r
  induction r with
  | nil =>
    intro done h k _ hd hr hS h0 hk
    refine ⟨[], h, ?_, hr, rfl, fun A hA => by simp at hA, ?_, KB.refl _ _⟩
    · refine loop_off (by decide) ?_
      rw [B54_0_eq]
      refine ifF (by simp at hd ⊢; omega) ?_
      simp [mcAs]
    · rw [mcAs, Int.add_zero]
      exact .nil k
  | cons A r ihr =>
    intro done h k hL hd hr hS h0 hk
    simp only [List.length_cons] at hd
    have hlt : done.length < (done ++ A :: r).length := by simp
    obtain ⟨Ci, cs, fo, hP, hcl, hsub, hdis⟩ := hr.open (by decide) hlt
    rw [get_split hlt] at hP
    obtain ⟨l1, l2, l3⟩ := hL A (by simp)
    obtain ⟨a1, b1, g1, S1, S2, S3, rfl, hrow, hbox, hlk, hg, s1, s2, s3, d1, d2, d3⟩ := hP
    rw [mcAs] at hk ⊢
    have hr0 := mcAs_nn f r
    have hmA := mcA_nn f A
    have hm1 : 0 ≤ mcL f A.regs := by unfold mcL; omega
    have hm2 : 0 ≤ mcL f A.box := by unfold mcL; omega
    have emA : mcA f A = mcL f A.regs + mcL f A.box + (A.links.length : Int) := rfl
    have hbS : ∀ b, S b → base ≤ b := fun b hb => (hS b hb).1
    obtain ⟨ad, h1, rfl, w1, fo1, k1, n1⟩ := fo.wr (AcD.kp _ _) hbS (j := 0) (new := [.int .i64 k]) (by simp) (by simp)
    obtain ⟨ad', h2, ead, w2, fo2, k2, n2⟩ := fo1.wr (AcD.kp _ _) hbS (j := 1) (new := [.int .i64 (k + 1)]) (by simp) (by simp)
    injection ead with ead
    subst ead
    have kA : KB (blk (some ad)) h h2 := KB.trans k1 k2 (fun _ _ h => h) (fun _ _ h => h)
    have ecs : setAt (setAt (acV A.pid A.pc a1 A.regs.length b1 A.box.length g1 A.links.length) 0 [.int .i64 k]) 1 [.int .i64 (k + 1)] = acV k (k + 1) a1 A.regs.length b1 A.box.length g1 A.links.length := rfl
    rw [ecs] at fo2
    obtain ⟨ad', ead, c2⟩ := fo2.cell (j := 2) (v := .slice a1 A.regs.length A.regs.length) rfl
    injection ead with ead
    subst ead
    have hSi : ∀ b, Ci b → base ≤ b ∧ b < h2.length := fun b hb => by have := hS b (hsub b hb); have := kA.1; omega
    obtain ⟨lr, h3, e3, hrow3, len3, m3, k3⟩ := markTermS_run (base := base) f A.regs h2 S1 a1 (k + 1 + 1) (hrow.keep (TmD.kp _) kA fun b hb hk => hdis b hk (s1 b hb)) l1 (fun b hb => hSi b (s1 b hb)) (by omega) (by unfold mcL at hm1 emA; omega)
    have n3 := k3.1
    have fo3 := fo2.keep (AcD.kp _ _) k3 fun b _ hb => s1 b hb
    obtain ⟨ad', ead, c3⟩ := fo3.cell (j := 3) (v := .slice b1 A.box.length A.box.length) rfl
    injection ead with ead
    subst ead
    obtain ⟨lb, h4, e4, hbox4, len4, m4, k4⟩ := markTermS_run (base := base) f A.box h3 S2 b1 (k + 1 + 1 + mcL f A.regs) ((hbox.keep (TmD.kp _) kA fun b hb hk => hdis b hk (s2 b hb)).keep (TmD.kp _) k3 fun b hb hb' => d1 b hb' hb) l2 (fun b hb => by have := hSi b (s2 b hb); omega) (by omega) (by unfold mcL at *; omega)
    have n4 := k4.1
    have fo4 := fo3.keep (AcD.kp _ _) k4 fun b _ hb => s2 b hb
    obtain ⟨ad', ead, c4⟩ := fo4.cell (j := 4) (v := .slice g1 A.links.length A.links.length) rfl
    injection ead with ead
    subst ead
    have hlk4 : Own base 3 h4 g1 (iv .i64 A.links) := ((hlk.keep kA fun b hb hb' => hdis b hb' (s3 b (hg b hb))).keep k3 fun b hb hb' => d2 b hb' (hg b hb)).keep k4 fun b hb hb' => d3 b hb' (hg b hb)
    have hk2 : ((k + 1 + 1 + mcL f A.regs + mcL f A.box).toNat : Int) = k + 1 + 1 + mcL f A.regs + mcL f A.box := by omega
    obtain ⟨h5, e5, hlk5, k5⟩ := markIntS_run (base := base) (k := (k + 1 + 1 + mcL f A.regs + mcL f A.box).toNat) hlk4 l3 (by omega)
    rw [Int.natCast_add, hk2] at e5
    have n5 := k5.1
    have fo5 := fo4.keep (AcD.kp _ _) k5 fun b _ hb => s3 b (hg b hb)
    have hmk : (marksI (k + 1 + 1 + mcL f A.regs + mcL f A.box).toNat A.links.length).length = A.links.length := by simp [marksI]
    have hr5 := fo5.close (y := ⟨k, k + 1, lr, lb, marksI (k + 1 + 1 + mcL f A.regs + mcL f A.box).toNat A.links.length⟩) ⟨a1, b1, g1, S1, S2, S3, by simp only [len3, len4, hmk], (hrow3.keep (TmD.kp _) k4 fun b hb hb' => d1 b hb hb').keep (TmD.kp _) k5 fun b hb hb' => d2 b hb (hg b hb'), hbox4.keep (TmD.kp _) k5 fun b hb hb' => d3 b hb (hg b hb'), hlk5, hg, s1, s2, s3, d1, d2, d3⟩
    rw [set_split, show done ++ (⟨k, k + 1, lr, lb, marksI (k + 1 + 1 + mcL f A.regs + mcL f A.box).toNat A.links.length⟩ : Ac) :: r = (done ++ [(⟨k, k + 1, lr, lb, marksI (k + 1 + 1 + mcL f A.regs + mcL f A.box).toNat A.links.length⟩ : Ac)]) ++ r from by simp] at hr5
    have kB : KB S h h5 := KB.trans (KB.trans (KB.trans kA k3 (fun b _ hb => by
        obtain ⟨vs, T, C, _, _, x3, _⟩ := fo
        exact (x3 b hb).1) (fun b _ hb => hsub b (s1 b hb))) k4 (fun _ _ h => h) (fun b _ hb => hsub b (s2 b hb))) k5 (fun _ _ h => h) (fun b _ hb => hsub b (s3 b (hg b hb)))
    obtain ⟨r', h6, e6, row6, len6, L6, m6, k6⟩ := ihr (done ++ [(⟨k, k + 1, lr, lb, marksI (k + 1 + 1 + mcL f A.regs + mcL f A.box).toNat A.links.length⟩ : Ac)]) h5 (k + 2 + mcA f A) (fun B hB => hL B (by simp [hB])) (by simp; omega) hr5 (fun b hb => ⟨(hS b hb).1, by have := (hS b hb).2; have := kB.1; omega⟩) (by omega) (by omega)
    have ek : k + 2 + mcA f A + mcAs f r = k + (2 + mcA f A + mcAs f r) := by omega
    rw [ek] at e6 m6
    refine ⟨⟨k, k + 1, lr, lb, marksI (k + 1 + 1 + mcL f A.regs + mcL f A.box).toNat A.links.length⟩ :: r', h6, ?_, by simpa using row6, by simp [len6], fun B hB => ?_, .cons rfl rfl ⟨k + 2 + mcL f A.regs, k + 2 + mcL f A.regs + mcL f A.box, ?_, ?_, ?_, ?_⟩ m6, KB.trans kB k6 (fun _ _ h => h) (fun _ _ h => h)⟩
    · refine loop_on ?_ e6
      rw [B54_0_eq]
      have hlt' : (done.length : Int) < (n : Int) := by omega
      refine ifT (decide_eq_true hlt') (ifT ⟨by omega, hlt'⟩ (bs rfl ?_))
      simp only [Int.toNat_natCast]
      refine bs w1 (ifT ⟨by omega, hlt'⟩ (bs rfl ?_))
      rw [w64i (n := k + 1) (by omega) (by omega)]
      refine bs w2 (ifT ⟨by omega, hlt'⟩ (bs rfl (bS c2 ?_)))
      rw [w64i (n := k + 1 + 1) (by omega) (by omega)]
      refine bs e3 (bI rfl (ifT ⟨by omega, hlt'⟩ (bs rfl (bS c3 ?_))))
      refine bs e4 (bI rfl (ifT ⟨by omega, hlt'⟩ (bs rfl (bS c4 (bs e5 (bI rfl ?_))))))
      rw [w64i (n := (done.length : Int) + 1) (by omega) (by omega)]
      rw [show k + 1 + 1 + mcL f A.regs + mcL f A.box + (A.links.length : Int) = k + 2 + mcA f A from by omega]
      simp
    · rcases List.mem_cons.1 hB with rfl | hB
      · exact ⟨by simp only [len3]; exact l1, by simp only [len4]; exact l2, by simp only [hmk]; exact l3⟩
      · exact L6 B hB
    · rw [show k + 2 = k + 1 + 1 from by omega]; exact m3
    · rw [show k + 2 = k + 1 + 1 from by omega]; exact m4
    · simp only [hmk]
      rw [show k + 2 = k + 1 + 1 from by omega]
    · simp only [hmk]; omega
theorem markActorS_run {base f : Nat} {l : List Ac} {h : AH} {S : Fp} {a : Option Addr} {k : Int} (hr : RowD 5 (AcD base f) S h l a) (hl : l.length ≤ maxLen) (hL : ∀ A ∈ l, A.Le) (hS : ∀ b, S b → base ≤ b ∧ b < h.length) (h0 : 0 ≤ k) (hk : k + mcAs f l ≤ 1000000000) :
    ∃ l' h', run (Et base) 54 [.slice a l.length l.length, .int .i64 k] h = some (.int .i64 (k + mcAs f l), h') ∧ RowD 5 (AcD base f) S h' l' a ∧ l'.length = l.length ∧ (∀ A ∈ l', A.Le) ∧ IsMAs l' k (k + mcAs f l) ∧ KB S h h' := by
  obtain ⟨l', h', e, row, len, L, m, kk⟩ := markActorS_loop (base := base) hl l [] h k hL (by simp) (by simpa using hr) hS h0 hk
  exact ⟨l', h', r54 (bs e (ifT rfl (bI rfl rfl))), by simpa using row, len, L, m, kk⟩

theorem heldActorS_loop {base : Nat} : ∀ {r : List Ac} {k k' : Int}, IsMAs r k k' → 0 ≤ k → k' ≤ 1000000000 → ∀ (f : Nat) (h : AH) (p : Nat → Prop) (L : List Ac) (i : Nat) (a : Option Addr), L.drop i = r → i ≤ L.length → L.length ≤ 9223372036854775807 → (∀ A ∈ L, A.Le) → AsR h p f L a → base ≤ h.length →
    ∃ h', loopL (B57_0 base) [some (.slice a L.length L.length), some (.int .i64 k), some (.int .i64 (i : Int))] h = some (2, [some (.int .i64 k')], h') ∧ KB NoB h h' := by
  intro r k k' hm
  induction hm with
  | nil k =>
    intro h0 hk f h p L i a hr hi hL hLe hs hb
    refine ⟨h, ?_, KB.refl _ _⟩
    refine loop_off (by decide) ?_
    rw [B57_0_eq]
    have : L.length ≤ i := by simpa using hr
    exact ifF (by simp; omega) rfl
  | @cons k k1 k2 A r p1 p2 m1 m2 ih2 =>
    intro h0 hk f h p L i a hr hi hL hLe hs hb
    have le1 := m1.le
    have le2 := m2.le
    have hlt : i < L.length := by
      rcases Nat.lt_or_ge i L.length with h | h
      · exact h
      · rw [List.drop_eq_nil_of_le h] at hr; cases hr
    rw [List.drop_eq_getElem_cons hlt] at hr
    injection hr with hr1 hr2
    obtain ⟨l1, l2, l3⟩ := hLe _ (List.getElem_mem hlt)
    simp only [maxLen] at l1 l2
    obtain ⟨ad, x1, x2, x3, rfl, hbl, g0, g1, g2, g3, g4, hmm, hlk⟩ := hs.get hlt
    obtain ⟨x1', x2', x3', ecs, hrow, hbox, _, _⟩ := hmm
    injection ecs with _ ecs
    injection ecs with _ ecs
    injection ecs with q2 ecs
    injection ecs with q3 ecs
    injection ecs with q4 _
    injection q2 with q2 _ _; injection q3 with q3 _ _; injection q4 with q4 _ _
    subst q2; subst q3; subst q4
    rw [hr1] at l1 l2 l3 g0 g1 g2 g3 g4 hrow hbox hlk
    rw [p1] at g0
    rw [p2] at g1
    obtain ⟨k1', k2', n1, n2, n3, e12⟩ := m1
    have z1 := n1.le
    have z2 := n2.le
    obtain ⟨h2, e2, kk2⟩ := heldTermS_run (base := base) n1 (by omega) (by omega) (by omega) hrow hb
    have y2 := kk2.1
    obtain ⟨h3, e3, kk3⟩ := heldTermS_run (base := base) n2 (by omega) (by omega) (by omega) (hbox.keep kk2 fun _ _ h => h) (by omega)
    have y3 := kk3.1
    have k03 := kN kk2 kk3
    rw [n3] at hlk
    have e4 := heldIntS_run (base := base) (hlk.keepN k03) l3 (by omega)
    rw [Int.natCast_add, show ((k2'.toNat : Nat) : Int) = k2' from by omega] at e4
    obtain ⟨h5, e5, kk5⟩ := ih2 (by omega) hk f h3 p L (i + 1) (some ad) hr2 (by omega) hL hLe (hs.keepN k03) (by omega)
    refine ⟨h5, loop_on ?_ e5, kN k03 kk5⟩
    rw [B57_0_eq]
    have hlt' : (i : Int) < (L.length : Int) := by omega
    refine ifT (decide_eq_true hlt') (ifT ⟨by omega, hlt'⟩ (bs rfl ?_))
    simp only [Int.toNat_natCast]
    refine bI g0 (ifF (by simp) (ifT ⟨by omega, hlt'⟩ (bs rfl (bI g1 ?_))))
    rw [w64i (n := k + 1) (by omega) (by omega)]
    refine ifF (by simp) (ifT ⟨by omega, hlt'⟩ (bs rfl (bS g2 ?_)))
    rw [w64i (n := k + 1 + 1) (by omega) (by omega), show k + 1 + 1 = k + 2 from by omega]
    refine bs e2 (bI rfl (ifF (by simp; omega) (ifT ⟨by omega, hlt'⟩ (bs rfl (bS (cell_keep kk2 g3) (bs e3 (bI rfl ?_)))))))
    refine ifF (by simp; omega) (ifT ⟨by omega, hlt'⟩ (bs rfl (bS (cell_keep k03 g4) (bs e4 (bI rfl ?_)))))
    refine ifF (by simp; omega) ?_
    rw [w64i (n := (i : Int) + 1) (by omega) (by omega), ← e12]
    rfl
theorem heldActorS_run {base f : Nat} {l : List Ac} {k k' : Int} (m : IsMAs l k k') (h0 : 0 ≤ k) (hk : k' ≤ 1000000000) {h : AH} {p : Nat → Prop} {a : Option Addr} (hl : l.length ≤ 9223372036854775807) (hL : ∀ A ∈ l, A.Le) (hs : AsR h p f l a) (hb : base ≤ h.length) :
    ∃ h', run (Et base) 57 [.slice a l.length l.length, .int .i64 k] h = some (.int .i64 k', h') ∧ KB NoB h h' := by
  obtain ⟨h', e, kk⟩ := heldActorS_loop (base := base) m h0 hk f h p l 0 a (by simp) (by omega) hl hL hs hb
  rw [show ((0 : Nat) : Int) = 0 from rfl] at e
  exact ⟨h', r57 (bs e (ifF (by simp) (ifT rfl (bI rfl rfl)))), kk⟩

/-- How many marks a system takes. -/
def mcP (f : Nat) (P : Pl) : Int := 6 * (P.code.length : Int) + mcAs f P.acs + mcT f P.out
/-- A system whose places hold the marks. -/
def IsMP (P : Pl) (k k' : Int) : Prop := (∀ j : Nat, j < P.code.length → P.code[j]? = some (markI (k + 6 * (j : Int)))) ∧ ∃ k1, IsMAs P.acs (k + 6 * (P.code.length : Int)) k1 ∧ IsMT P.out k1 k'
theorem markPlain_run {base f : Nat} {h : AH} {S : Fp} {P : Pl} {cs : List Value} {k : Int} (hB : P.code.length ≤ 1048576 ∧ P.acs.length ≤ 1048576 ∧ P.out.length ≤ 1048576 ∧ ∀ A ∈ P.acs, A.Le) (x : PlD base f S h P cs) (hS : ∀ b, S b → base ≤ b ∧ b < h.length) (hb : base ≤ h.length) (h0 : 0 ≤ k) (hk : k + mcP f P ≤ 1000000000) :
    ∃ P' h', run (Et base) 18 [.agg cs.toArray, .int .i64 k] h = some (.int .i64 (k + mcP f P), h') ∧ PlD base f S h' P' cs ∧ IsMP P' k (k + mcP f P) ∧ (P'.code.length ≤ 1048576 ∧ P'.acs.length ≤ 1048576 ∧ P'.out.length ≤ 1048576 ∧ ∀ A ∈ P'.acs, A.Le) ∧ KB S h h' := by
  obtain ⟨a, b, g, S1, S2, S3, rfl, hc, hcb, ha, ho, s1, s2, s3, d1, d2, d3⟩ := x
  obtain ⟨b1, b2, b3, b4⟩ := hB
  have hm2 := mcAs_nn f P.acs
  have hm3 : 0 ≤ mcT f P.out := by unfold mcT; omega
  have em : mcP f P = 6 * (P.code.length : Int) + mcAs f P.acs + mcT f P.out := rfl
  obtain ⟨o1, k1, q1⟩ := box_own (base := base) (t := 32) (h := h) (cs := plV a P.code.length b P.acs.length P.next g P.out.length) hb rfl
  generalize hh1 : h ++ [some (⟨plV a P.code.length b P.acs.length P.next g P.out.length, 32⟩ : Blk)] = h1 at o1 k1 q1
  obtain ⟨ys, h2, e2, hc2, len2, m2, k2⟩ := markInsS_run (base := base) (k := k) b1 (hc.keepN k1) h0 (by omega)
  have n2 := k2.1
  obtain ⟨la, h3, e3, ha3, len3, L3, m3, k3⟩ := markActorS_run (base := base) (k := k + 6 * (P.code.length : Int)) ((ha.keep (AcD.kp _ _) k1 fun _ _ h => h).keep (AcD.kp _ _) k2 fun x hx hx' => d1 x (hcb x hx') hx) (by simp only [maxLen]; omega) b4 (fun x hx => by have := hS x (s2 x hx); omega) (by omega) (by omega)
  have n3 := k3.1
  obtain ⟨lo, h4, e4, ho4, len4, m4, k4⟩ := markSaidS_run (base := base) (k := k + 6 * (P.code.length : Int) + mcAs f P.acs) (((ho.keep (SdD.kp _) k1 fun _ _ h => h).keep (SdD.kp _) k2 fun x hx hx' => d2 x (hcb x hx') hx).keep (SdD.kp _) k3 fun x hx hx' => d3 x hx' hx) (by simp only [maxLen]; omega) (fun x hx => by have := hS x (s3 x hx); omega) (by omega) (by omega)
  have n4 := k4.1
  have nb : ∀ x, S x → x ≠ h.length := fun x hx => by have := hS x hx; omega
  have o2 := o1.keep k2 fun x hx hx' => by rw [blk_at0] at hx; exact nb x (s1 x (hcb x hx')) hx
  have o3 := o2.keep k3 fun x hx hx' => by rw [blk_at0] at hx; exact nb x (s2 x hx') hx
  refine ⟨⟨ys, la, P.next, lo⟩, h4, r18 (lets fun y ey => ?_), ⟨a, b, g, S1, S2, S3, by simp only [len2, len3, len4], (hc2.keep k3 fun x hx hx' => d1 x (hcb x hx) hx').keep k4 fun x hx hx' => d2 x (hcb x hx) hx', hcb, ha3.keep (AcD.kp _ _) k4 fun x hx hx' => d3 x hx hx', ho4, s1, s2, s3, d1, d2, d3⟩, ⟨fun j hj => m2 j (by simp only [len2] at hj; exact hj), k + 6 * (P.code.length : Int) + mcAs f P.acs, by simp only [len2]; exact m3, by rw [em, show k + (6 * (P.code.length : Int) + mcAs f P.acs + mcT f P.out) = k + 6 * (P.code.length : Int) + mcAs f P.acs + mcT f P.out from by omega]; exact m4⟩, ⟨by simp only [len2]; exact b1, by simp only [len3]; exact b2, by simp only [len4]; exact b3, L3⟩, ?_⟩
  · rw [hh1] at ey
    rw [ey]
    refine bS (o1.at0 (i := 0) rfl) (bs e2 (bI rfl (bS (o2.at0 (i := 1) rfl) (bs e3 (bI rfl (bS (o3.at0 (i := 3) rfl) (bs e4 (bI rfl ?_))))))))
    rw [em, show k + (6 * (P.code.length : Int) + mcAs f P.acs + mcT f P.out) = k + 6 * (P.code.length : Int) + mcAs f P.acs + mcT f P.out from by omega]
  · exact KB.trans (KB.trans (KB.trans (KB.mono k1 fun _ _ h => h.elim) k2 (fun _ _ h => h) (fun x _ hx => s1 x (hcb x hx))) k3 (fun _ _ h => h) (fun x _ hx => s2 x hx)) k4 (fun _ _ h => h) (fun x _ hx => s3 x hx)
theorem heldPlain_run {base f : Nat} {h : AH} {p : Nat → Prop} {P : Pl} {cs : List Value} {k k' : Int} (hB : P.code.length ≤ 1048576 ∧ P.acs.length ≤ 1048576 ∧ P.out.length ≤ 1048576 ∧ ∀ A ∈ P.acs, A.Le) (m : IsMP P k k') (h0 : 0 ≤ k) (hk : k' ≤ 1000000000) (x : PlR h p f P cs) (hb : base ≤ h.length) :
    ∃ h', run (Et base) 19 [.agg cs.toArray, .int .i64 k] h = some (.int .i64 k', h') ∧ KB NoB h h' := by
  obtain ⟨a, b, g, rfl, hc, _, ha, ho⟩ := x
  obtain ⟨b1, b2, b3, b4⟩ := hB
  obtain ⟨m1, k1', m2, m3⟩ := m
  have z2 := m2.le
  have z3 := m3.le
  obtain ⟨o1, k1, q1⟩ := box_own (base := base) (t := 32) (h := h) (cs := plV a P.code.length b P.acs.length P.next g P.out.length) hb rfl
  generalize hh1 : h ++ [some (⟨plV a P.code.length b P.acs.length P.next g P.out.length, 32⟩ : Blk)] = h1 at o1 k1 q1
  obtain ⟨h2, e2, k2⟩ := heldInsS_run (base := base) h0 (by omega) m1 (hc.keepN k1) (by omega)
  have n2 := k2.1
  have k02 := kN k1 k2
  obtain ⟨h3, e3, k3⟩ := heldActorS_run (base := base) m2 (by omega) (by omega) (by omega) b4 (ha.keepN k02) (by omega)
  have n3 := k3.1
  have k03 := kN k02 k3
  obtain ⟨h4, e4, k4⟩ := heldSaidS_run (base := base) m3 (by omega) hk (by omega) (ho.keep k03 fun _ _ h => h) (by omega)
  refine ⟨h4, r19 (lets fun y ey => ?_), kN k03 k4⟩
  rw [hh1] at ey
  rw [ey]
  refine bS (o1.at0 (i := 0) rfl) (bs e2 (bI rfl (ifF (by simp; omega) (bS ((o1.keepN k2).at0 (i := 1) rfl) (bs e3 (bI rfl (ifF (by simp; omega) ?_)))))))
  exact bS (((o1.keepN k2).keepN k3).at0 (i := 3) rfl) (bs e4 (bI rfl (ifF (by simp; omega) rfl)))
end Go.Proofs.Ytolcnednfbbnnaa.Am


set_option linter.unusedSimpArgs false
set_option linter.unusedVariables false
namespace Go.Proofs.Ytolcnednfbbnnaa.Am
open Go Go.RowKit

def hasI (v : Int) : List Int → Bool
  | [] => false
  | x :: r => if (x == v) = true then true else hasI v r
theorem int_get {h : AH} {a : Option Addr} {zs : List Int} (hs : Sl h a (iv .i64 zs)) {i : Nat} (hi : i < zs.length) : ∃ ad, a = some ad ∧ Am.cell h ad.block (ad.off + i * 1) = some (.int .i64 zs[i]) := by
  obtain ⟨ad, e, g⟩ := hs.cell (i := i) (v := .int .i64 zs[i]) (by simp [iv, hi])
  exact ⟨ad, e, by rw [Nat.mul_one]; exact g⟩
theorem l11Has_loop {base : Nat} {zs : List Int} {v : Int} {a : Option Addr} {h : AH} (hl : zs.length ≤ 9223372036854775807) (hs : Sl h a (iv .i64 zs)) : ∀ (d i : Nat), i + d = zs.length →
    loopL (B126_0 base) [some (.slice a zs.length zs.length), some (.int .i64 v), some (.int .i64 (i : Int))] h = some (if hasI v (zs.drop i) = true then (1, [some (.bool true)], h) else (2, [], h)) := by
  intro d
  induction d with
  | zero =>
    intro i hi
    rw [List.drop_eq_nil_of_le (by omega), hasI, if_neg (by decide)]
    refine loop_off (by decide) ?_
    rw [B126_0_eq]
    exact ifF (by simp; omega) rfl
  | succ d ihd =>
    intro i hi
    have hlt : i < zs.length := by omega
    obtain ⟨ad, rfl, g⟩ := int_get hs hlt
    rw [List.drop_eq_getElem_cons hlt, hasI]
    by_cases c : (zs[i] == v) = true
    · rw [if_pos c, if_pos rfl]
      refine loop_off (by decide) ?_
      rw [B126_0_eq]
      refine ifT (decide_eq_true (by omega)) (ifT ⟨by omega, by omega⟩ (bs rfl ?_))
      simp only [Int.toNat_natCast]
      exact bI g (ifT c rfl)
    · rw [if_neg c, ← ihd (i + 1) (by omega)]
      refine loop_on ?_ rfl
      rw [B126_0_eq]
      refine ifT (decide_eq_true (by omega)) (ifT ⟨by omega, by omega⟩ (bs rfl ?_))
      simp only [Int.toNat_natCast]
      refine bI g (ifF c ?_)
      rw [w64i (n := (i : Int) + 1) (by omega) (by omega)]
      rfl
theorem l11Has_run {base : Nat} {zs : List Int} {v : Int} {a : Option Addr} {h : AH} (hl : zs.length ≤ 9223372036854775807) (hs : Sl h a (iv .i64 zs)) : run (Et base) 126 [.slice a zs.length zs.length, .int .i64 v] h = some (.bool (hasI v zs), h) := by
  have e := l11Has_loop (base := base) (v := v) hl hs zs.length 0 (by omega)
  rw [List.drop_zero, show ((0 : Nat) : Int) = 0 from rfl] at e
  cases c : hasI v zs with
  | true =>
    rw [c, if_pos rfl] at e
    exact r126 (bs e (ifT rfl (bB rfl rfl)))
  | false =>
    rw [c, if_neg (by decide)] at e
    exact r126 (bs e (ifF (show ¬ (2 : Nat) = 1 by decide) (ifT rfl rfl)))
theorem hasInt_loop {base : Nat} {zs : List Int} {v : Int} {a : Option Addr} {h : AH} (hl : zs.length ≤ 9223372036854775807) (hs : Sl h a (iv .i64 zs)) : ∀ (d i : Nat), i + d = zs.length →
    loopL (B88_0 base) [some (.int .i64 v), some (.slice a zs.length zs.length), some (.int .i64 (zs.length : Int)), some (.int .i64 (i : Int))] h = some (if hasI v (zs.drop i) = true then (1, [some (.bool true)], h) else (2, [], h)) := by
  intro d
  induction d with
  | zero =>
    intro i hi
    rw [List.drop_eq_nil_of_le (by omega), hasI, if_neg (by decide)]
    refine loop_off (by decide) ?_
    rw [B88_0_eq]
    exact ifF (by simp; omega) rfl
  | succ d ihd =>
    intro i hi
    have hlt : i < zs.length := by omega
    obtain ⟨ad, rfl, g⟩ := int_get hs hlt
    rw [List.drop_eq_getElem_cons hlt, hasI]
    by_cases c : (zs[i] == v) = true
    · rw [if_pos c, if_pos rfl]
      refine loop_off (by decide) ?_
      rw [B88_0_eq]
      refine ifT (decide_eq_true (by omega)) (ifT ⟨by omega, by omega⟩ (bs rfl ?_))
      simp only [Int.toNat_natCast]
      exact bI g (ifT c rfl)
    · rw [if_neg c, ← ihd (i + 1) (by omega)]
      refine loop_on ?_ rfl
      rw [B88_0_eq]
      refine ifT (decide_eq_true (by omega)) (ifT ⟨by omega, by omega⟩ (bs rfl ?_))
      simp only [Int.toNat_natCast]
      refine bI g (ifF c ?_)
      rw [w64i (n := (i : Int) + 1) (by omega) (by omega)]
      rfl
theorem hasInt_run {base : Nat} {zs : List Int} {v : Int} {a : Option Addr} {h : AH} (hl : zs.length ≤ 9223372036854775807) (hs : Sl h a (iv .i64 zs)) : run (Et base) 88 [.slice a zs.length zs.length, .int .i64 v] h = some (.bool (hasI v zs), h) := by
  have e := hasInt_loop (base := base) (v := v) hl hs zs.length 0 (by omega)
  rw [List.drop_zero, show ((0 : Nat) : Int) = 0 from rfl] at e
  cases c : hasI v zs with
  | true =>
    rw [c, if_pos rfl] at e
    exact r88 (bs e (ifT rfl (bB rfl rfl)))
  | false =>
    rw [c, if_neg (by decide)] at e
    exact r88 (bs e (ifF (show ¬ (2 : Nat) = 1 by decide) (ifT rfl rfl)))

/-- Where an actor stands, from i on; -1: nowhere. -/
def atL (v : Int) : Nat → List Ac → Int
  | _, [] => -1
  | i, x :: r => if (x.pid == v) = true then (i : Int) else atL v (i + 1) r
theorem atL_lt (v : Int) : ∀ (l : List Ac) (i : Nat), atL v i l = -1 ∨ ((i : Int) ≤ atL v i l ∧ atL v i l < (i : Int) + (l.length : Int))
  | [], i => .inl rfl
  | x :: r, i => by
    rw [atL]
    split
    · right; constructor
      · omega
      · simp; omega
    · rcases atL_lt v r (i + 1) with h | ⟨h1, h2⟩
      · exact .inl h
      · right; simp; omega
theorem l11At_loop {base f : Nat} {p : Nat → Prop} {l : List Ac} {a : Option Addr} {v : Int} {b : Nat} {h : AH} (hl : l.length ≤ 9223372036854775807) (hs : AsR h p f l a) (hc : Am.cell h b 1 = some (.slice a l.length l.length)) : ∀ (d i : Nat), i + d = l.length →
    ∃ q, loopL (B125_0 base) [some (.int .i64 v), some (.pointer (at0 b)), some (.int .i64 (i : Int))] h = some (q, if q = 1 then [some (.int .i64 (atL v i (l.drop i)))] else [], h) ∧ (q = 1 ∨ (q = 2 ∧ atL v i (l.drop i) = -1)) := by
  intro d
  induction d with
  | zero =>
    intro i hi
    rw [List.drop_eq_nil_of_le (by omega), atL]
    refine ⟨2, loop_off (by decide) ?_, .inr ⟨rfl, rfl⟩⟩
    rw [B125_0_eq]
    exact bS (by simpa using hc) (ifF (by simp; omega) rfl)
  | succ d ihd =>
    intro i hi
    have hlt : i < l.length := by omega
    obtain ⟨ad, x1, x2, x3, rfl, _, g0, g1, g2, g3, g4, hm, _⟩ := hs.get hlt
    rw [List.drop_eq_getElem_cons hlt, atL]
    have hc' : Am.cell h b (0 + 1) = some (.slice (some ad) l.length l.length) := by simpa using hc
    by_cases c : (l[i].pid == v) = true
    · rw [if_pos c]
      refine ⟨1, loop_off (by decide) ?_, .inl rfl⟩
      rw [B125_0_eq]
      refine bS hc' (ifT (decide_eq_true (by omega)) (bS hc' (ifT ⟨by omega, by omega⟩ (bs rfl ?_))))
      simp only [Int.toNat_natCast]
      exact bI g0 (ifT c rfl)
    · rw [if_neg c]
      obtain ⟨q, e, hq⟩ := ihd (i + 1) (by omega)
      refine ⟨q, loop_on ?_ e, hq⟩
      rw [B125_0_eq]
      refine bS hc' (ifT (decide_eq_true (by omega)) (bS hc' (ifT ⟨by omega, by omega⟩ (bs rfl ?_))))
      simp only [Int.toNat_natCast]
      refine bI g0 (ifF c ?_)
      rw [w64i (n := (i : Int) + 1) (by omega) (by omega)]
      rfl
theorem l11At_run {base f : Nat} {p : Nat → Prop} {P : Pl} {a b g : Option Addr} {v : Int} {h : AH} (hl : P.acs.length ≤ 9223372036854775807) (hs : AsR h p f P.acs b) (hb : base ≤ h.length) :
    ∃ h', run (Et base) 125 [.agg (plV a P.code.length b P.acs.length P.next g P.out.length).toArray, .int .i64 v] h = some (.int .i64 (atL v 0 P.acs), h') ∧ KB NoB h h' := by
  obtain ⟨o1, k1, q1⟩ := box_own (base := base) (t := 32) (h := h) (cs := plV a P.code.length b P.acs.length P.next g P.out.length) hb rfl
  generalize hh1 : h ++ [some (⟨plV a P.code.length b P.acs.length P.next g P.out.length, 32⟩ : Blk)] = h1 at o1 k1 q1
  obtain ⟨q, e, hq⟩ := l11At_loop (base := base) (v := v) (b := h.length) hl (hs.keepN k1) (o1.at0 (i := 1) rfl) P.acs.length 0 (by omega)
  rw [List.drop_zero, show ((0 : Nat) : Int) = 0 from rfl] at e
  rw [List.drop_zero] at hq
  refine ⟨h1, r125 (lets fun y ey => ?_), k1⟩
  rw [hh1] at ey
  subst ey
  refine bs e ?_
  rcases hq with rfl | ⟨rfl, e1⟩
  · exact ifT rfl (bI rfl rfl)
  · rw [e1]
    exact ifF (show ¬ (2 : Nat) = 1 by decide) (ifT rfl rfl)
theorem at_loop {base f : Nat} {p : Nat → Prop} {l : List Ac} {a : Option Addr} {v : Int} (hl : l.length ≤ 9223372036854775807) : ∀ (d i : Nat) (h : AH), i + d = l.length → AsR h p f l a → base ≤ h.length →
    ∃ q h', loopL (B87_0 base) [some (.int .i64 v), some (.slice a l.length l.length), some (.int .i64 (l.length : Int)), some (.int .i64 (i : Int))] h = some (q, if q = 1 then [some (.int .i64 (atL v i (l.drop i)))] else [], h') ∧ (q = 1 ∨ (q = 2 ∧ atL v i (l.drop i) = -1)) ∧ KB NoB h h' := by
  intro d
  induction d with
  | zero =>
    intro i h hi hs hb
    rw [List.drop_eq_nil_of_le (by omega), atL]
    refine ⟨2, h, loop_off (by decide) ?_, .inr ⟨rfl, rfl⟩, KB.refl _ _⟩
    rw [B87_0_eq]
    exact ifF (by simp; omega) rfl
  | succ d ihd =>
    intro i h hi hs hb
    have hlt : i < l.length := by omega
    obtain ⟨ad, x1, x2, x3, rfl, _, g0, g1, g2, g3, g4, hm, _⟩ := hs.get hlt
    obtain ⟨o1, k1, q1⟩ := box_own (base := base) (t := 52) (h := h) (cs := acV l[i].pid l[i].pc x1 l[i].regs.length x2 l[i].box.length x3 l[i].links.length) hb rfl
    generalize hh1 : h ++ [some (⟨acV l[i].pid l[i].pc x1 l[i].regs.length x2 l[i].box.length x3 l[i].links.length, 52⟩ : Blk)] = h1 at o1 k1 q1
    rw [List.drop_eq_getElem_cons hlt, atL]
    have head : ∀ {r : Option (Nat × Slots × AH)}, (if (l[i].pid == v) = true then some (1, [some (.int .i64 (i : Int))], h1) else some (0, [some (.int .i64 v), some (.slice (some ad) l.length l.length), some (.int .i64 (l.length : Int)), some (.int .i64 (IntKind.wrap .i64 ((i : Int) + (1 : Int))))], h1)) = r → B87_0 base [some (.int .i64 v), some (.slice (some ad) l.length l.length), some (.int .i64 (l.length : Int)), some (.int .i64 (i : Int))] h = r := by
      intro r hr
      rw [B87_0_eq]
      refine ifT (decide_eq_true (by omega)) (ifT ⟨by omega, by omega⟩ (bs rfl ?_))
      simp only [Int.toNat_natCast]
      refine bI g0 (bI g1 (bS g2 (bS g3 (bS g4 (nw hb rfl fun y ey => ?_)))))
      rw [hh1] at ey
      rw [ey]
      exact bI (o1.at0 (i := 0) rfl) hr
    by_cases c : (l[i].pid == v) = true
    · rw [if_pos c]
      exact ⟨1, h1, loop_off (by decide) (head (ifT c rfl)), .inl rfl, k1⟩
    · rw [if_neg c]
      obtain ⟨q, h2, e, hq, k2⟩ := ihd (i + 1) h1 (by omega) (hs.keepN k1) (by omega)
      refine ⟨q, h2, loop_on (head (ifF c ?_)) e, hq, kN k1 k2⟩
      rw [w64i (n := (i : Int) + 1) (by omega) (by omega)]
      rfl
theorem at_run {base f b : Nat} {p : Nat → Prop} {l : List Ac} {a : Option Addr} {v : Int} {h : AH} (hl : l.length ≤ 9223372036854775807) (hs : AsR h p f l a) (hc : Am.cell h b 1 = some (.slice a l.length l.length)) (hb : base ≤ h.length) :
    ∃ h', run (Et base) 87 [.pointer (at0 b), .int .i64 v] h = some (.int .i64 (atL v 0 l), h') ∧ KB NoB h h' := by
  obtain ⟨q, h1, e, hq, k1⟩ := at_loop (base := base) (v := v) hl l.length 0 h (by omega) hs hb
  rw [List.drop_zero, show ((0 : Nat) : Int) = 0 from rfl] at e
  rw [List.drop_zero] at hq
  refine ⟨h1, r87 (bs rfl (bS (by simpa using hc) (bs e ?_))), k1⟩
  rcases hq with rfl | ⟨rfl, e1⟩
  · exact ifT rfl (bI rfl rfl)
  · rw [e1]
    exact ifF (show ¬ (2 : Nat) = 1 by decide) (ifT rfl rfl)

/-! what was said -/
def badSd (f : Nat) (x : Sd) : Bool := if (!inB x.kind 1 3) = true then true else if (!inB x.pid 1 99999) = true then true else !tOk f x.t
def anyBadS (f : Nat) : List Sd → Bool
  | [] => false
  | x :: r => badSd f x || anyBadS f r
def saidOk (f : Nat) (l : List Sd) : Bool := !anyBadS f l && decide ((l.length : Int) ≤ (500 : Int))
theorem l11Said_loop {base f : Nat} {p : Nat → Prop} {l : List Sd} {a : Option Addr} (hl : l.length ≤ 9223372036854775807) : ∀ (d i : Nat) (h : AH), i + d = l.length → SsR h p f l a → base ≤ h.length →
    ∃ h', loopL (B90_0 base) [some (.slice a l.length l.length), some (.int .i64 (i : Int))] h = some (if anyBadS f (l.drop i) = true then (1, [some (.bool false)], h') else (2, [some (.slice a l.length l.length)], h')) ∧ KB NoB h h' := by
  intro d
  induction d with
  | zero =>
    intro i h hi hs hb
    refine ⟨h, ?_, KB.refl _ _⟩
    rw [List.drop_eq_nil_of_le (by omega), anyBadS, if_neg (by decide)]
    refine loop_off (by decide) ?_
    rw [B90_0_eq]
    exact ifF (by simp; omega) rfl
  | succ d ihd =>
    intro i h hi hs hb
    have hlt : i < l.length := by omega
    obtain ⟨ad, k, n, s, a2, m, rfl, _, g0, g1, g2, g3, g4, g5, hm⟩ := hs.get hlt
    obtain ⟨h2, e2, k2⟩ := specTermOk_run (base := base) hm hb
    have n2 := k2.1
    have eI := l1In_run (base := base) (h := h) (x := l[i].kind) (a := 1) (b := 3)
    have eI2 := l1In_run (base := base) (h := h) (x := l[i].pid) (a := 1) (b := 99999)
    rw [List.drop_eq_getElem_cons hlt, anyBadS]
    have head : ∃ h3, KB NoB h h3 ∧ base ≤ h3.length ∧ ∀ {r : Option (Nat × Slots × AH)}, (if badSd f l[i] = true then some (1, [some (.bool false)], h3) else some (0, [some (.slice (some ad) l.length l.length), some (.int .i64 (IntKind.wrap .i64 ((i : Int) + (1 : Int))))], h3)) = r → B90_0 base [some (.slice (some ad) l.length l.length), some (.int .i64 (i : Int))] h = r := by
      unfold badSd
      by_cases c1 : (!inB l[i].kind 1 3) = true
      · refine ⟨h, KB.refl _ _, hb, fun hr => ?_⟩
        rw [if_pos c1] at hr
        rw [B90_0_eq]
        refine ifT (decide_eq_true (by omega)) (bj (q := ([some (.slice (some ad) l.length l.length), some (.int .i64 (i : Int)), some (.bool true)], h)) ?_ (bS rfl (bI rfl (bB rfl hr))))
        refine ifT ⟨by omega, by omega⟩ (bs rfl ?_)
        simp only [Int.toNat_natCast]
        exact bI g0 (bs eI (bB rfl (ifT c1 rfl)))
      by_cases c2 : (!inB l[i].pid 1 99999) = true
      · refine ⟨h, KB.refl _ _, hb, fun hr => ?_⟩
        rw [if_neg c1, if_pos c2] at hr
        rw [B90_0_eq]
        refine ifT (decide_eq_true (by omega)) (bj (q := ([some (.slice (some ad) l.length l.length), some (.int .i64 (i : Int)), some (.bool true)], h)) ?_ (bS rfl (bI rfl (bB rfl hr))))
        refine ifT ⟨by omega, by omega⟩ (bs rfl ?_)
        simp only [Int.toNat_natCast]
        exact bI g0 (bs eI (bB rfl (ifF c1 (ifT ⟨by omega, by omega⟩ (bs rfl (bI g1 (bs eI2 (bB rfl (ifT c2 rfl)))))))))
      · refine ⟨h2, k2, by omega, fun hr => ?_⟩
        rw [if_neg c1, if_neg c2] at hr
        rw [B90_0_eq]
        refine ifT (decide_eq_true (by omega)) (bj (q := ([some (.slice (some ad) l.length l.length), some (.int .i64 (i : Int)), some (.bool (!tOk f l[i].t))], h2)) ?_ (bS rfl (bI rfl (bB rfl hr))))
        refine ifT ⟨by omega, by omega⟩ (bs rfl ?_)
        simp only [Int.toNat_natCast]
        refine bI g0 (bs eI (bB rfl (ifF c1 (ifT ⟨by omega, by omega⟩ (bs rfl (bI g1 (bs eI2 (bB rfl (ifF c2 (ifT ⟨by omega, by omega⟩ (bs rfl ?_)))))))))))
        exact bI g2 (bI g3 (bT g4 (bS g5 (bs e2 (bB rfl rfl)))))
    obtain ⟨h3, k3, n3, head⟩ := head
    cases c : badSd f l[i] with
    | true =>
      refine ⟨h3, ?_, k3⟩
      rw [Bool.true_or, if_pos rfl]
      exact loop_off (by decide) (head (by rw [c]; exact ifT rfl rfl))
    | false =>
      rw [Bool.false_or]
      obtain ⟨h4, y1, y2⟩ := ihd (i + 1) h3 (by omega) (hs.keep k3 fun _ _ h => h) n3
      refine ⟨h4, loop_on (head ?_) y1, kN k3 y2⟩
      rw [c, w64i (n := (i : Int) + 1) (by omega) (by omega)]
      exact ifF (by decide) rfl
theorem l11Said_run {base f : Nat} {h : AH} {p : Nat → Prop} {l : List Sd} {a : Option Addr} (hl : l.length ≤ 9223372036854775807) (hs : SsR h p f l a) (hb : base ≤ h.length) : ∃ h', run (Et base) 90 [.slice a l.length l.length] h = some (.bool (saidOk f l), h') ∧ KB NoB h h' := by
  obtain ⟨h1, e1, k1⟩ := l11Said_loop (base := base) hl l.length 0 h (by omega) hs hb
  rw [List.drop_zero, show ((0 : Nat) : Int) = 0 from rfl] at e1
  refine ⟨h1, ?_, k1⟩
  unfold saidOk
  cases c : anyBadS f l with
  | true =>
    rw [c, if_pos rfl] at e1
    exact r90 (bs e1 (ifT rfl (bB rfl rfl)))
  | false =>
    rw [c, if_neg (by decide)] at e1
    exact r90 (bs e1 (ifF (show ¬ (2 : Nat) = 1 by decide) (ifT rfl (bS rfl (by simp)))))
theorem outOk_loop {base f : Nat} {p : Nat → Prop} {l : List Sd} {a : Option Addr} (hl : l.length ≤ 9223372036854775807) : ∀ (d i : Nat) (h : AH), i + d = l.length → SsR h p f l a → base ≤ h.length →
    ∃ h', loopL (B86_0 base) [some (.slice a l.length l.length), some (.slice a l.length l.length), some (.int .i64 (l.length : Int)), some (.int .i64 (i : Int))] h = some (if anyBadS f (l.drop i) = true then (1, [some (.bool false)], h') else (2, [some (.slice a l.length l.length)], h')) ∧ KB NoB h h' := by
  intro d
  induction d with
  | zero =>
    intro i h hi hs hb
    refine ⟨h, ?_, KB.refl _ _⟩
    rw [List.drop_eq_nil_of_le (by omega), anyBadS, if_neg (by decide)]
    refine loop_off (by decide) ?_
    rw [B86_0_eq]
    exact ifF (by simp; omega) rfl
  | succ d ihd =>
    intro i h hi hs hb
    have hlt : i < l.length := by omega
    obtain ⟨ad, k, n, s, a2, m, rfl, _, g0, g1, g2, g3, g4, g5, hm⟩ := hs.get hlt
    obtain ⟨o1, k1, q1⟩ := box_own (base := base) (t := 127) (h := h) (cs := saidV l[i].kind l[i].pid k n s a2 m) hb rfl
    generalize hh1 : h ++ [some (⟨saidV l[i].kind l[i].pid k n s a2 m, 127⟩ : Blk)] = h1 at o1 k1 q1
    obtain ⟨h2, e2, k2⟩ := implTermOk_run (base := base) (h := h1) (TmR.keep k1 (fun _ _ h => h) _ _ _ hm) (by omega)
    have n2 := k2.1
    have eI := in_run (base := base) (h := h1) (x := l[i].kind) (a := 1) (b := 3)
    have eI2 := in_run (base := base) (h := h1) (x := l[i].pid) (a := 1) (b := 99999)
    rw [List.drop_eq_getElem_cons hlt, anyBadS]
    have head : ∃ h3, KB NoB h h3 ∧ base ≤ h3.length ∧ ∀ {r : Option (Nat × Slots × AH)}, (if badSd f l[i] = true then some (1, [some (.bool false)], h3) else some (0, [some (.slice (some ad) l.length l.length), some (.slice (some ad) l.length l.length), some (.int .i64 (l.length : Int)), some (.int .i64 (IntKind.wrap .i64 ((i : Int) + (1 : Int))))], h3)) = r → B86_0 base [some (.slice (some ad) l.length l.length), some (.slice (some ad) l.length l.length), some (.int .i64 (l.length : Int)), some (.int .i64 (i : Int))] h = r := by
      have pre : ∀ (b : Bool) (hz : AH) {r : Option (Nat × Slots × AH)}, (if (!inB l[i].kind 1 3) = true then some (Sum.inl ([some (.slice (some ad) l.length l.length), some (.slice (some ad) l.length l.length), some (.int .i64 (l.length : Int)), some (.int .i64 (i : Int)), some (.bool true)], h1)) else if (!inB l[i].pid 1 99999) = true then some (Sum.inl ([some (.slice (some ad) l.length l.length), some (.slice (some ad) l.length l.length), some (.int .i64 (l.length : Int)), some (.int .i64 (i : Int)), some (.bool true)], h1)) else some (Sum.inl ([some (.slice (some ad) l.length l.length), some (.slice (some ad) l.length l.length), some (.int .i64 (l.length : Int)), some (.int .i64 (i : Int)), some (.bool (!tOk f l[i].t))], h2))) = some (Sum.inl (([some (.slice (some ad) l.length l.length), some (.slice (some ad) l.length l.length), some (.int .i64 (l.length : Int)), some (.int .i64 (i : Int)), some (.bool b)], hz)) : Sum (Slots × AH) (Nat × Slots × AH)) →
          (if b = true then some (1, [some (.bool false)], hz) else some (0, [some (.slice (some ad) l.length l.length), some (.slice (some ad) l.length l.length), some (.int .i64 (l.length : Int)), some (.int .i64 (IntKind.wrap .i64 ((i : Int) + (1 : Int))))], hz)) = r → B86_0 base [some (.slice (some ad) l.length l.length), some (.slice (some ad) l.length l.length), some (.int .i64 (l.length : Int)), some (.int .i64 (i : Int))] h = r := by
        intro b hz r hq hr
        rw [B86_0_eq]
        refine ifT (decide_eq_true (by omega)) (ifT ⟨by omega, by omega⟩ (bs rfl ?_))
        simp only [Int.toNat_natCast]
        refine bI g0 (bI g1 (bI g2 (bI g3 (bT g4 (bS g5 (nw hb rfl fun y ey => ?_))))))
        rw [hh1] at ey
        rw [ey]
        refine bj (q := ([some (.slice (some ad) l.length l.length), some (.slice (some ad) l.length l.length), some (.int .i64 (l.length : Int)), some (.int .i64 (i : Int)), some (.bool b)], hz)) ?_ (bS rfl (bS rfl (bI rfl (bI rfl (bB rfl hr)))))
        refine bI (o1.at0 (i := 0) rfl) (bs eI (bB rfl ?_))
        rw [← hq]
        by_cases c1 : (!inB l[i].kind 1 3) = true
        · rw [if_pos c1, if_pos c1]
        rw [if_neg c1, if_neg c1]
        refine bI (o1.at0 (i := 1) rfl) (bs eI2 (bB rfl ?_))
        by_cases c2 : (!inB l[i].pid 1 99999) = true
        · rw [if_pos c2, if_pos c2]
        rw [if_neg c2, if_neg c2]
        exact bI (o1.at0 (i := 2) rfl) (bI (o1.at0 (i := 3) rfl) (bT (o1.at0 (i := 4) rfl) (bS (o1.at0 (i := 5) rfl) (bs e2 (bB rfl rfl)))))
      unfold badSd
      by_cases c1 : (!inB l[i].kind 1 3) = true
      · refine ⟨h1, k1, by omega, fun hr => pre true h1 (if_pos c1) ?_⟩
        rw [if_pos c1] at hr
        exact hr
      by_cases c2 : (!inB l[i].pid 1 99999) = true
      · refine ⟨h1, k1, by omega, fun hr => pre true h1 (by rw [if_neg c1, if_pos c2]) ?_⟩
        rw [if_neg c1, if_pos c2] at hr
        exact hr
      · refine ⟨h2, kN k1 k2, by omega, fun hr => pre (!tOk f l[i].t) h2 (by rw [if_neg c1, if_neg c2]) ?_⟩
        rw [if_neg c1, if_neg c2] at hr
        exact hr
    obtain ⟨h3, k3, n3, head⟩ := head
    cases c : badSd f l[i] with
    | true =>
      refine ⟨h3, ?_, k3⟩
      rw [Bool.true_or, if_pos rfl]
      exact loop_off (by decide) (head (by rw [c]; exact ifT rfl rfl))
    | false =>
      rw [Bool.false_or]
      obtain ⟨h4, y1, y2⟩ := ihd (i + 1) h3 (by omega) (hs.keep k3 fun _ _ h => h) n3
      refine ⟨h4, loop_on (head ?_) y1, kN k3 y2⟩
      rw [c, w64i (n := (i : Int) + 1) (by omega) (by omega)]
      exact ifF (by decide) rfl
theorem outOk_run {base f : Nat} {h : AH} {p : Nat → Prop} {l : List Sd} {a : Option Addr} (hl : l.length ≤ 9223372036854775807) (hs : SsR h p f l a) (hb : base ≤ h.length) : ∃ h', run (Et base) 86 [.slice a l.length l.length] h = some (.bool (saidOk f l), h') ∧ KB NoB h h' := by
  obtain ⟨h1, e1, k1⟩ := outOk_loop (base := base) hl l.length 0 h (by omega) hs hb
  rw [List.drop_zero, show ((0 : Nat) : Int) = 0 from rfl] at e1
  refine ⟨h1, ?_, k1⟩
  unfold saidOk
  cases c : anyBadS f l with
  | true =>
    rw [c, if_pos rfl] at e1
    exact r86 (bs e1 (ifT rfl (bB rfl rfl)))
  | false =>
    rw [c, if_neg (by decide)] at e1
    exact r86 (bs e1 (ifF (show ¬ (2 : Nat) = 1 by decide) (ifT rfl (bS rfl (by simp)))))
end Go.Proofs.Ytolcnednfbbnnaa.Am


set_option linter.unusedSimpArgs false
set_option linter.unusedVariables false
namespace Go.Proofs.Ytolcnednfbbnnaa.Am
open Go Go.RowKit

def a0 : Ac := ⟨0, 0, [], [], []⟩
theorem aD {l : List Ac} {i : Nat} (hi : i < l.length) : l.getD i a0 = l[i] := by simp [hi]
def badLk (acs : List Ac) (v n : Int) : Bool := if decide (atL n 0 acs ≥ 0) = true then !hasI v (acs.getD (atL n 0 acs).toNat a0).links else false
def anyLk (acs : List Ac) (v : Int) : List Int → Bool
  | [] => false
  | n :: r => badLk acs v n || anyLk acs v r
theorem l11Both_loop {base f pb ab : Nat} {p : Nat → Prop} {P : Pl} {a b c : Option Addr} {A : Ac} {x1 x2 g : Option Addr} (hM : PlM P) (hA : A.links.length ≤ 9223372036854775807) : ∀ (d i : Nat) (h : AH), i + d = A.links.length → AsR h p f P.acs b → Own base 32 h (at0 pb) (plV a P.code.length b P.acs.length P.next c P.out.length) → Own base 52 h (at0 ab) (acV A.pid A.pc x1 A.regs.length x2 A.box.length g A.links.length) → Sl h g (iv .i64 A.links) → base ≤ h.length →
    ∃ h', loopL (B91_0 base) [some (.pointer (at0 pb)), some (.pointer (at0 ab)), some (.int .i64 (i : Int))] h = some (if anyLk P.acs A.pid (A.links.drop i) = true then (1, [some (.bool false)], h') else (2, [], h')) ∧ KB NoB h h' := by
  intro d
  induction d with
  | zero =>
    intro i h hi hs oP oA hl hb
    refine ⟨h, ?_, KB.refl _ _⟩
    rw [List.drop_eq_nil_of_le (by omega), anyLk, if_neg (by decide)]
    refine loop_off (by decide) ?_
    rw [B91_0_eq]
    refine bS (oA.at0 (i := 4) rfl) (ifF ?_ rfl)
    simp; omega
  | succ d ihd =>
    intro i h hi hs oP oA hl hb
    have hlt : i < A.links.length := by omega
    obtain ⟨gd, rfl, gl⟩ := int_get hl hlt
    obtain ⟨h2, e2, k2⟩ := l11At_run (base := base) (P := P) (a := a) (g := c) (v := A.links[i]) hM.2.2.1 hs hb
    have n2 := k2.1
    rw [List.drop_eq_getElem_cons hlt, anyLk]
    have head : ∀ {r : Option (Nat × Slots × AH)}, (if badLk P.acs A.pid A.links[i] = true then some (1, [some (.bool false)], h2) else some (0, [some (.pointer (at0 pb)), some (.pointer (at0 ab)), some (.int .i64 (IntKind.wrap .i64 ((i : Int) + (1 : Int))))], h2)) = r → B91_0 base [some (.pointer (at0 pb)), some (.pointer (at0 ab)), some (.int .i64 (i : Int))] h = r := by
      intro r hr
      rw [B91_0_eq]
      refine bS (oA.at0 (i := 4) rfl) (ifT (decide_eq_true (by omega)) ?_)
      refine bS (oP.at0 (i := 0) rfl) (bS (oP.at0 (i := 1) rfl) (bI (oP.at0 (i := 2) rfl) (bS (oP.at0 (i := 3) rfl) (bS (oA.at0 (i := 4) rfl) (ifT ⟨by omega, by omega⟩ (bs rfl ?_))))))
      simp only [Int.toNat_natCast]
      refine bI gl (bs e2 (bI rfl ?_))
      refine bj (q := ([some (.pointer (at0 pb)), some (.pointer (at0 ab)), some (.int .i64 (i : Int)), some (.bool (badLk P.acs A.pid A.links[i]))], h2)) ?_ (bs rfl (bs rfl (bI rfl (bB rfl hr))))
      unfold badLk
      by_cases cc : atL A.links[i] 0 P.acs ≥ 0
      · rw [decide_eq_true cc, if_pos rfl, if_pos rfl]
        have hlt2 : atL A.links[i] 0 P.acs < (P.acs.length : Int) := by
          rcases atL_lt A.links[i] P.acs 0 with h | ⟨_, h⟩ <;> omega
        have hn : (atL A.links[i] 0 P.acs).toNat < P.acs.length := by omega
        obtain ⟨ad, u1, u2, u3, rfl, _, y0, y1, y2, y3, y4, _, ym⟩ := (hs.keepN k2).get hn
        have eh := l11Has_run (base := base) (v := A.pid) (h := h2) (by have := (hM.2.2.2.1 _ (List.getElem_mem hn)).2.2; omega) ym
        rw [aD hn]
        exact bS ((oP.keepN k2).at0 (i := 1) rfl) (ifT ⟨cc, hlt2⟩ (bs rfl (bS y4 (bI ((oA.keepN k2).at0 (i := 0) rfl) (bs eh (bB rfl rfl))))))
      · rw [decide_eq_false cc, if_neg (by decide), if_neg (by decide)]
    cases cb : badLk P.acs A.pid A.links[i] with
    | true =>
      refine ⟨h2, ?_, k2⟩
      rw [Bool.true_or, if_pos rfl]
      exact loop_off (by decide) (head (by rw [cb]; exact ifT rfl rfl))
    | false =>
      rw [Bool.false_or]
      obtain ⟨h4, y1, y2⟩ := ihd (i + 1) h2 (by omega) (hs.keepN k2) (oP.keepN k2) (oA.keepN k2) (hl.keepN k2) (by omega)
      refine ⟨h4, loop_on (head ?_) y1, kN k2 y2⟩
      rw [cb, w64i (n := (i : Int) + 1) (by omega) (by omega)]
      exact ifF (by decide) rfl
theorem l11Both_run {base f : Nat} {p : Nat → Prop} {P : Pl} {a b c : Option Addr} {i : Nat} {h : AH} (hM : PlM P) (hi : i < P.acs.length) (hs : AsR h p f P.acs b) (hb : base ≤ h.length) :
    ∃ h', run (Et base) 91 [.agg (plV a P.code.length b P.acs.length P.next c P.out.length).toArray, .int .i64 (i : Int)] h = some (.bool (!anyLk P.acs P.acs[i].pid P.acs[i].links), h') ∧ KB NoB h h' := by
  obtain ⟨o1, k1, q1⟩ := box_own (base := base) (t := 32) (h := h) (cs := plV a P.code.length b P.acs.length P.next c P.out.length) hb rfl
  generalize hh1 : h ++ [some (⟨plV a P.code.length b P.acs.length P.next c P.out.length, 32⟩ : Blk)] = h1 at o1 k1 q1
  obtain ⟨ad, x1, x2, g, rfl, _, g0, g1, g2, g3, g4, hm, hl⟩ := (hs.keepN k1).get hi
  obtain ⟨o2, k2, q2⟩ := box_own (base := base) (t := 52) (h := h1) (cs := acV P.acs[i].pid P.acs[i].pc x1 P.acs[i].regs.length x2 P.acs[i].box.length g P.acs[i].links.length) (by omega) rfl
  generalize hh2 : h1 ++ [some (⟨acV P.acs[i].pid P.acs[i].pc x1 P.acs[i].regs.length x2 P.acs[i].box.length g P.acs[i].links.length, 52⟩ : Blk)] = h2 at o2 k2 q2
  have k02 := kN k1 k2
  obtain ⟨h3, e3, k3⟩ := l11Both_loop (base := base) hM (hM.2.2.2.1 _ (List.getElem_mem hi)).2.2 P.acs[i].links.length 0 h2 (by omega) (hs.keepN k02) (o1.keepN k2) o2 (hl.keepN k2) (by omega)
  rw [List.drop_zero, show ((0 : Nat) : Int) = 0 from rfl] at e3
  refine ⟨h3, r91 (lets fun y ey => ?_), kN k02 k3⟩
  rw [hh1] at ey
  rw [ey]
  refine bS (o1.at0 (i := 1) rfl) (ifT ⟨by omega, by omega⟩ (bs rfl ?_))
  simp only [Int.toNat_natCast]
  refine bI g0 (bI g1 (bS g2 (bS g3 (bS g4 (nw (show base ≤ h1.length by omega) rfl fun y ey => ?_)))))
  rw [hh2] at ey
  rw [ey]
  refine bs e3 ?_
  cases anyLk P.acs P.acs[i].pid P.acs[i].links with
  | true => exact ifT rfl (bB rfl rfl)
  | false => exact ifF (show ¬ (2 : Nat) = 1 by decide) (ifT rfl rfl)

def preA (f : Nat) (P : Pl) (i : Nat) : Bool := if (!acOk f P.code (P.acs.getD i a0)) = true then true else if decide ((P.acs.getD i a0).pid ≥ P.next) = true then true else if decide ((i : Int) > (0 : Int)) = true then decide ((P.acs.getD (i - 1) a0).pid ≥ (P.acs.getD i a0).pid) else false
def badA (f : Nat) (P : Pl) (i : Nat) : Bool := if preA f P i = true then true else anyLk P.acs (P.acs.getD i a0).pid (P.acs.getD i a0).links
def anyA (f : Nat) (P : Pl) : Nat → Nat → Bool
  | 0, _ => false
  | d + 1, i => badA f P i || anyA f P d (i + 1)
def plOk (f : Nat) (P : Pl) : Bool := codeOk P.code && (inB P.next 1 90000 && (decide (¬ (P.acs.length : Int) > 20) && (saidOk f P.out && !anyA f P P.acs.length 0)))

theorem specPlainOk_loop {base f pb : Nat} {p : Nat → Prop} {P : Pl} {a b c : Option Addr} (hM : PlM P) : ∀ (d i : Nat) (h : AH), i + d = P.acs.length → AsR h p f P.acs b → Own base 32 h (at0 pb) (plV a P.code.length b P.acs.length P.next c P.out.length) → Sl h a (insR P.code) → base ≤ h.length →
    ∃ h', loopL (B35_0 base) [some (.pointer (at0 pb)), some (.int .i64 (i : Int))] h = some (if anyA f P d i = true then (1, [some (.bool false)], h') else (2, [], h')) ∧ KB NoB h h' := by
  intro d
  have l1 := hM.1
  have l3 := hM.2.2.1
  induction d with
  | zero =>
    intro i h hi hs oP hc hb
    refine ⟨h, ?_, KB.refl _ _⟩
    rw [anyA, if_neg (by decide)]
    refine loop_off (by decide) ?_
    rw [B35_0_eq]
    refine bS (oP.at0 (i := 1) rfl) (ifF ?_ rfl)
    simp; omega
  | succ d ihd =>
    intro i h hi hs oP hc hb
    have hlt : i < P.acs.length := by omega
    obtain ⟨ad, x1, x2, x3, rfl, _, g0, g1, g2, g3, g4, hm, _⟩ := hs.get hlt
    obtain ⟨o1, k1, q1⟩ := box_own (base := base) (t := 52) (h := h) (cs := acV P.acs[i].pid P.acs[i].pc x1 P.acs[i].regs.length x2 P.acs[i].box.length x3 P.acs[i].links.length) hb rfl
    generalize hh1 : h ++ [some (⟨acV P.acs[i].pid P.acs[i].pc x1 P.acs[i].regs.length x2 P.acs[i].box.length x3 P.acs[i].links.length, 52⟩ : Blk)] = h1 at o1 k1 q1
    obtain ⟨h2, e2, k2⟩ := specActorOk_run (base := base) hM.2.1 l1 (hc.keepN k1) (hM.2.2.2.1 _ (List.getElem_mem hlt)) (hm.keep k1 fun _ _ h => h) (by omega)
    have n2 := k2.1
    have k02 := kN k1 k2
    obtain ⟨h3, e3, k3⟩ := l11Both_run (base := base) (a := a) (c := c) hM hlt (hs.keepN k02) (by omega)
    have n3 := k3.1
    have oP1 := oP.keepN k1
    have oP2 := oP1.keepN k2
    have o2 := o1.keepN k2
    have head : ∃ hz, KB NoB h hz ∧ ∀ {r : Option (Nat × Slots × AH)}, (if badA f P i = true then some (1, [some (.bool false)], hz) else some (0, [some (.pointer (at0 pb)), some (.int .i64 (IntKind.wrap .i64 ((i : Int) + (1 : Int))))], hz)) = r → B35_0 base [some (.pointer (at0 pb)), some (.int .i64 (i : Int))] h = r := by
      have hB : badA f P i = if (!acOk f P.code P.acs[i]) = true then true else if decide (P.acs[i].pid ≥ P.next) = true then true else if decide ((i : Int) > (0 : Int)) = true then (if decide ((P.acs.getD (i - 1) a0).pid ≥ P.acs[i].pid) = true then true else anyLk P.acs P.acs[i].pid P.acs[i].links) else anyLk P.acs P.acs[i].pid P.acs[i].links := by
        unfold badA preA
        rw [aD hlt]
        cases acOk f P.code P.acs[i] <;> cases decide (P.acs[i].pid ≥ P.next) <;> cases decide ((i : Int) > (0 : Int)) <;> cases decide ((P.acs.getD (i - 1) a0).pid ≥ P.acs[i].pid) <;> rfl
      rw [hB]
      by_cases c1 : (!acOk f P.code P.acs[i]) = true
      · refine ⟨h2, k02, fun hr => ?_⟩
        rw [if_pos c1] at hr
        rw [B35_0_eq]
        refine bS (oP.at0 (i := 1) rfl) (ifT (decide_eq_true (by omega)) (bS (oP.at0 (i := 1) rfl) (ifT ⟨by omega, by omega⟩ (bs rfl ?_))))
        simp only [Int.toNat_natCast]
        refine bI g0 (bI g1 (bS g2 (bS g3 (bS g4 (nw hb rfl fun y ey => ?_)))))
        rw [hh1] at ey
        rw [ey]
        refine bj (q := ([some (.pointer (at0 pb)), some (.int .i64 (i : Int)), some (.bool true)], h2)) ?_ (bs rfl (bI rfl (bB rfl hr)))
        refine bS (oP1.at0 (i := 0) rfl) (bI (o1.at0 (i := 0) rfl) (bI (o1.at0 (i := 1) rfl) (bS (o1.at0 (i := 2) rfl) (bS (o1.at0 (i := 3) rfl) (bS (o1.at0 (i := 4) rfl) (bs e2 (bB rfl ?_)))))))
        exact ifT c1 rfl
      by_cases c2 : decide (P.acs[i].pid ≥ P.next) = true
      · refine ⟨h2, k02, fun hr => ?_⟩
        rw [if_neg c1, if_pos c2] at hr
        rw [B35_0_eq]
        refine bS (oP.at0 (i := 1) rfl) (ifT (decide_eq_true (by omega)) (bS (oP.at0 (i := 1) rfl) (ifT ⟨by omega, by omega⟩ (bs rfl ?_))))
        simp only [Int.toNat_natCast]
        refine bI g0 (bI g1 (bS g2 (bS g3 (bS g4 (nw hb rfl fun y ey => ?_)))))
        rw [hh1] at ey
        rw [ey]
        refine bj (q := ([some (.pointer (at0 pb)), some (.int .i64 (i : Int)), some (.bool true)], h2)) ?_ (bs rfl (bI rfl (bB rfl hr)))
        refine bS (oP1.at0 (i := 0) rfl) (bI (o1.at0 (i := 0) rfl) (bI (o1.at0 (i := 1) rfl) (bS (o1.at0 (i := 2) rfl) (bS (o1.at0 (i := 3) rfl) (bS (o1.at0 (i := 4) rfl) (bs e2 (bB rfl ?_)))))))
        exact ifF c1 (bI (o2.at0 (i := 0) rfl) (bI (oP2.at0 (i := 2) rfl) (ifT c2 rfl)))
      by_cases c3 : (i : Int) > 0
      · have hw : IntKind.wrap .i64 ((i : Int) - (1 : Int)) = ((i - 1 : Nat) : Int) := by rw [w64i (by omega) (by omega)]; omega
        have hp1 : i - 1 < P.acs.length := by omega
        obtain ⟨ad2, u1, u2, u3, ee, _, y0, _, _, _, _, _, _⟩ := (hs.keepN k02).get hp1
        injection ee with ee
        subst ee
        rw [aD hp1, decide_eq_true c3]
        by_cases c4 : decide (P.acs[i - 1].pid ≥ P.acs[i].pid) = true
        · refine ⟨h2, k02, fun hr => ?_⟩
          rw [if_neg c1, if_neg c2, if_pos rfl, if_pos c4] at hr
          rw [B35_0_eq]
          refine bS (oP.at0 (i := 1) rfl) (ifT (decide_eq_true (by omega)) (bS (oP.at0 (i := 1) rfl) (ifT ⟨by omega, by omega⟩ (bs rfl ?_))))
          simp only [Int.toNat_natCast]
          refine bI g0 (bI g1 (bS g2 (bS g3 (bS g4 (nw hb rfl fun y ey => ?_)))))
          rw [hh1] at ey
          rw [ey]
          refine bj (q := ([some (.pointer (at0 pb)), some (.int .i64 (i : Int)), some (.bool true)], h2)) ?_ (bs rfl (bI rfl (bB rfl hr)))
          refine bS (oP1.at0 (i := 0) rfl) (bI (o1.at0 (i := 0) rfl) (bI (o1.at0 (i := 1) rfl) (bS (o1.at0 (i := 2) rfl) (bS (o1.at0 (i := 3) rfl) (bS (o1.at0 (i := 4) rfl) (bs e2 (bB rfl ?_)))))))
          refine ifF c1 (bI (o2.at0 (i := 0) rfl) (bI (oP2.at0 (i := 2) rfl) (ifF c2 ?_)))
          rw [hw]
          refine ifT (decide_eq_true c3) (bS (oP2.at0 (i := 1) rfl) (ifT ⟨by omega, by omega⟩ (bs rfl ?_)))
          simp only [Int.toNat_natCast]
          exact bI y0 (bI (o2.at0 (i := 0) rfl) (ifT c4 rfl))
        · refine ⟨h3, kN k02 k3, fun hr => ?_⟩
          rw [if_neg c1, if_neg c2, if_pos rfl, if_neg c4] at hr
          rw [B35_0_eq]
          refine bS (oP.at0 (i := 1) rfl) (ifT (decide_eq_true (by omega)) (bS (oP.at0 (i := 1) rfl) (ifT ⟨by omega, by omega⟩ (bs rfl ?_))))
          simp only [Int.toNat_natCast]
          refine bI g0 (bI g1 (bS g2 (bS g3 (bS g4 (nw hb rfl fun y ey => ?_)))))
          rw [hh1] at ey
          rw [ey]
          refine bj (q := ([some (.pointer (at0 pb)), some (.int .i64 (i : Int)), some (.bool (anyLk P.acs P.acs[i].pid P.acs[i].links))], h3)) ?_ (bs rfl (bI rfl (bB rfl hr)))
          refine bS (oP1.at0 (i := 0) rfl) (bI (o1.at0 (i := 0) rfl) (bI (o1.at0 (i := 1) rfl) (bS (o1.at0 (i := 2) rfl) (bS (o1.at0 (i := 3) rfl) (bS (o1.at0 (i := 4) rfl) (bs e2 (bB rfl ?_)))))))
          refine ifF c1 (bI (o2.at0 (i := 0) rfl) (bI (oP2.at0 (i := 2) rfl) (ifF c2 ?_)))
          rw [hw]
          refine ifT (decide_eq_true c3) (bS (oP2.at0 (i := 1) rfl) (ifT ⟨by omega, by omega⟩ (bs rfl ?_)))
          simp only [Int.toNat_natCast]
          refine bI y0 (bI (o2.at0 (i := 0) rfl) (ifF c4 ?_))
          refine bS (oP2.at0 (i := 0) rfl) (bS (oP2.at0 (i := 1) rfl) (bI (oP2.at0 (i := 2) rfl) (bS (oP2.at0 (i := 3) rfl) (bs e3 (bB rfl ?_)))))
          rw [Bool.not_not]
      · refine ⟨h3, kN k02 k3, fun hr => ?_⟩
        rw [decide_eq_false c3] at hr
        rw [if_neg c1, if_neg c2, if_neg (show ¬ (false = true) by decide)] at hr
        rw [B35_0_eq]
        refine bS (oP.at0 (i := 1) rfl) (ifT (decide_eq_true (by omega)) (bS (oP.at0 (i := 1) rfl) (ifT ⟨by omega, by omega⟩ (bs rfl ?_))))
        simp only [Int.toNat_natCast]
        refine bI g0 (bI g1 (bS g2 (bS g3 (bS g4 (nw hb rfl fun y ey => ?_)))))
        rw [hh1] at ey
        rw [ey]
        refine bj (q := ([some (.pointer (at0 pb)), some (.int .i64 (i : Int)), some (.bool (anyLk P.acs P.acs[i].pid P.acs[i].links))], h3)) ?_ (bs rfl (bI rfl (bB rfl hr)))
        refine bS (oP1.at0 (i := 0) rfl) (bI (o1.at0 (i := 0) rfl) (bI (o1.at0 (i := 1) rfl) (bS (o1.at0 (i := 2) rfl) (bS (o1.at0 (i := 3) rfl) (bS (o1.at0 (i := 4) rfl) (bs e2 (bB rfl ?_)))))))
        refine ifF c1 (bI (o2.at0 (i := 0) rfl) (bI (oP2.at0 (i := 2) rfl) (ifF c2 (ifF (by simpa using c3) ?_))))
        refine bS (oP2.at0 (i := 0) rfl) (bS (oP2.at0 (i := 1) rfl) (bI (oP2.at0 (i := 2) rfl) (bS (oP2.at0 (i := 3) rfl) (bs e3 (bB rfl ?_)))))
        rw [Bool.not_not]
    obtain ⟨hz, kz, head⟩ := head
    have nz := kz.1
    rw [anyA]
    cases cb : badA f P i with
    | true =>
      refine ⟨hz, ?_, kz⟩
      rw [Bool.true_or, if_pos rfl]
      exact loop_off (by decide) (head (by rw [cb]; exact ifT rfl rfl))
    | false =>
      rw [Bool.false_or]
      obtain ⟨h4, y1, y2⟩ := ihd (i + 1) hz (by omega) (hs.keepN kz) (oP.keepN kz) (hc.keepN kz) (by omega)
      refine ⟨h4, loop_on (head ?_) y1, kN kz y2⟩
      rw [cb, w64i (n := (i : Int) + 1) (by omega) (by omega)]
      exact ifF (by decide) rfl
theorem specPlainOk_run {base f : Nat} {h : AH} {p : Nat → Prop} {P : Pl} {cs : List Value} (hM : PlM P) (x : PlR h p f P cs) (hb : base ≤ h.length) :
    ∃ h', run (Et base) 35 [.agg cs.toArray] h = some (.bool (plOk f P), h') ∧ KB NoB h h' := by
  obtain ⟨a, b, c, rfl, hc, _, hs, ho⟩ := x
  obtain ⟨o1, k1, q1⟩ := box_own (base := base) (t := 32) (h := h) (cs := plV a P.code.length b P.acs.length P.next c P.out.length) hb rfl
  generalize hh1 : h ++ [some (⟨plV a P.code.length b P.acs.length P.next c P.out.length, 32⟩ : Blk)] = h1 at o1 k1 q1
  obtain ⟨h2, e2, k2⟩ := specCodeOk_run (base := base) hM.2.1 hM.1 (hc.keepN k1) (by omega)
  have n2 := k2.1
  have k02 := kN k1 k2
  have o2 := o1.keepN k2
  have eI := l1In_run (base := base) (h := h2) (x := P.next) (a := 1) (b := 90000)
  obtain ⟨h3, e3, k3⟩ := l11Said_run (base := base) hM.2.2.2.2 (ho.keep k02 fun _ _ h => h) (by omega)
  have n3 := k3.1
  have k03 := kN k02 k3
  obtain ⟨h4, e4, k4⟩ := specPlainOk_loop (base := base) (pb := h.length) hM P.acs.length 0 h3 (by omega) (hs.keepN k03) (o2.keepN k3) (hc.keepN k03) (by omega)
  rw [show ((0 : Nat) : Int) = 0 from rfl] at e4
  unfold plOk
  have fin : ∀ (q : Bool) (hz : AH) {r : Value × AH}, (hq : (if (!codeOk P.code) = true then some (Sum.inl (([some (.pointer (at0 h.length)), some (.bool true)], h2))) else if (!inB P.next 1 90000) = true then some (Sum.inl (([some (.pointer (at0 h.length)), some (.bool true)], h2))) else if decide ((P.acs.length : Int) > 20) = true then some (Sum.inl (([some (.pointer (at0 h.length)), some (.bool true)], h2))) else some (Sum.inl (([some (.pointer (at0 h.length)), some (.bool (!saidOk f P.out))], h3)))) = some (Sum.inl (([some (.pointer (at0 h.length)), some (.bool q)], hz)) : Sum (Slots × AH) (Value × AH))) →
      (if q = true then some ((.bool false), hz) else (loopL (B35_0 base) [some (.pointer (at0 h.length)), some (.int .i64 (0 : Int))] hz).bind fun q15 => (if q15.1 = 1 then ((sget q15.2.1 0).bind getB).bind fun b16 => some ((.bool b16), q15.2.2) else (if q15.1 = 2 then some ((.bool true), q15.2.2) else none))) = some r → run (Et base) 35 [.agg (plV a P.code.length b P.acs.length P.next c P.out.length).toArray] h = some r := by
    intro q hz r hq hr
    refine r35 (lets fun y ey => ?_)
    rw [hh1] at ey
    rw [ey]
    refine bj (q := ([some (.pointer (at0 h.length)), some (.bool q)], hz)) ?_ (bs rfl (bB rfl hr))
    rw [← hq]
    refine bS (o1.at0 (i := 0) rfl) (bs e2 (bB rfl ?_))
    by_cases c1 : (!codeOk P.code) = true
    · rw [if_pos c1, if_pos c1]
    rw [if_neg c1, if_neg c1]
    refine bI (o2.at0 (i := 2) rfl) (bs eI (bB rfl ?_))
    by_cases c2 : (!inB P.next 1 90000) = true
    · rw [if_pos c2, if_pos c2]
    rw [if_neg c2, if_neg c2]
    refine bS (o2.at0 (i := 1) rfl) ?_
    by_cases c3 : decide ((P.acs.length : Int) > 20) = true
    · rw [if_pos c3, if_pos c3]
    rw [if_neg c3, if_neg c3]
    exact bS (o2.at0 (i := 3) rfl) (bs e3 (bB rfl rfl))
  by_cases c1 : codeOk P.code = true
  · rw [c1, Bool.true_and]
    by_cases c2 : inB P.next 1 90000 = true
    · rw [c2, Bool.true_and]
      by_cases c3 : (P.acs.length : Int) > 20
      · refine ⟨h2, fin true h2 (by rw [c1, c2]; simp [c3]) ?_, k02⟩
        simp [c3]
      · rw [decide_eq_true c3, Bool.true_and]
        by_cases c4 : saidOk f P.out = true
        · rw [c4, Bool.true_and]
          refine ⟨h4, fin false h3 (by rw [c1, c2, c4]; simp [c3]) (ifF (by decide) (bs e4 ?_)), kN k03 k4⟩
          cases anyA f P P.acs.length 0 with
          | true => exact ifT rfl (bB rfl rfl)
          | false => exact ifF (show ¬ (2 : Nat) = 1 by decide) (ifT rfl rfl)
        · refine ⟨h3, fin true h3 (by rw [c1, c2]; simp [c3, c4]) ?_, k03⟩
          simp [c4]
    · refine ⟨h2, fin true h2 (by rw [c1]; simp [c2]) ?_, k02⟩
      simp [c2]
  · refine ⟨h2, fin true h2 (by simp [c1]) ?_, k02⟩
    simp [c1]
end Go.Proofs.Ytolcnednfbbnnaa.Am


set_option linter.unusedSimpArgs false
set_option linter.unusedVariables false
namespace Go.Proofs.Ytolcnednfbbnnaa.Am
open Go Go.RowKit

end Go.Proofs.Ytolcnednfbbnnaa.Am


set_option linter.unusedSimpArgs false
set_option linter.unusedVariables false
namespace Go.Proofs.Ytolcnednfbbnnaa.Am
open Go Go.RowKit

end Go.Proofs.Ytolcnednfbbnnaa.Am


set_option linter.unusedSimpArgs false
set_option linter.unusedVariables false
namespace Go.Proofs.Ytolcnednfbbnnaa.Am
open Go Go.RowKit

end Go.Proofs.Ytolcnednfbbnnaa.Am


set_option linter.unusedSimpArgs false
set_option linter.unusedVariables false
namespace Go.Proofs.Ytolcnednfbbnnaa.Am
open Go Go.RowKit

theorem implBoth_loop {base f pb ab i : Nat} {p : Nat → Prop} {P : Pl} {a b c bb : Option Addr} {A : Ac} {x1 x2 g : Option Addr} {n : Nat} {v : Int} (hM : PlM P) (hA : A.links.length ≤ 9223372036854775807) : ∀ (d j : Nat) (h : AH), j + d = A.links.length → AsR h p f P.acs b → Own base 32 h (at0 pb) (plV a P.code.length b P.acs.length P.next c P.out.length) → Own base 52 h (at0 ab) (acV A.pid A.pc x1 A.regs.length x2 A.box.length g A.links.length) → Sl h g (iv .i64 A.links) → base ≤ h.length →
    ∃ h', loopL (B34_1 base) [some (.pointer (at0 pb)), some (.pointer (at0 ab)), some (.slice bb n n), some (.int .i64 v), some (.int .i64 (i : Int)), some (.slice g A.links.length A.links.length), some (.int .i64 (A.links.length : Int)), some (.int .i64 (j : Int))] h = some (if anyLk P.acs A.pid (A.links.drop j) = true then (1, [some (.bool false)], h') else (4, [some (.pointer (at0 pb)), some (.slice bb n n), some (.int .i64 v), some (.int .i64 (i : Int))], h')) ∧ KB NoB h h' := by
  intro d
  induction d with
  | zero =>
    intro j h hi hs oP oA hl hb
    refine ⟨h, ?_, KB.refl _ _⟩
    rw [List.drop_eq_nil_of_le (by omega), anyLk, if_neg (by decide)]
    refine loop_off (by decide) ?_
    rw [B34_1_eq]
    refine ifF ?_ rfl
    simp; omega
  | succ d ihd =>
    intro j h hi hs oP oA hl hb
    have hlt : j < A.links.length := by omega
    obtain ⟨gd, rfl, gl⟩ := int_get hl hlt
    obtain ⟨h2, e2, k2⟩ := at_run (base := base) (v := A.links[j]) hM.2.2.1 hs (oP.at0 (i := 1) rfl) hb
    have n2 := k2.1
    rw [List.drop_eq_getElem_cons hlt, anyLk]
    have head : ∀ {r : Option (Nat × Slots × AH)}, (if badLk P.acs A.pid A.links[j] = true then some (1, [some (.bool false)], h2) else some (0, [some (.pointer (at0 pb)), some (.pointer (at0 ab)), some (.slice bb n n), some (.int .i64 v), some (.int .i64 (i : Int)), some (.slice (some gd) A.links.length A.links.length), some (.int .i64 (A.links.length : Int)), some (.int .i64 (IntKind.wrap .i64 ((j : Int) + (1 : Int))))], h2)) = r → B34_1 base [some (.pointer (at0 pb)), some (.pointer (at0 ab)), some (.slice bb n n), some (.int .i64 v), some (.int .i64 (i : Int)), some (.slice (some gd) A.links.length A.links.length), some (.int .i64 (A.links.length : Int)), some (.int .i64 (j : Int))] h = r := by
      intro r hr
      rw [B34_1_eq]
      refine ifT (decide_eq_true (by omega)) (ifT ⟨by omega, by omega⟩ (bs rfl ?_))
      simp only [Int.toNat_natCast]
      refine bI gl (bs e2 (bI rfl ?_))
      refine bj (q := ([some (.pointer (at0 pb)), some (.pointer (at0 ab)), some (.slice bb n n), some (.int .i64 v), some (.int .i64 (i : Int)), some (.slice (some gd) A.links.length A.links.length), some (.int .i64 (A.links.length : Int)), some (.int .i64 (j : Int)), some (.bool (badLk P.acs A.pid A.links[j]))], h2)) ?_ (bs rfl (bs rfl (bS rfl (bI rfl (bI rfl (bS rfl (bI rfl (bI rfl (bB rfl hr)))))))))
      unfold badLk
      by_cases cc : atL A.links[j] 0 P.acs ≥ 0
      · rw [decide_eq_true cc, if_pos rfl, if_pos rfl]
        have hlt2 : atL A.links[j] 0 P.acs < (P.acs.length : Int) := by
          rcases atL_lt A.links[j] P.acs 0 with h | ⟨_, h⟩ <;> omega
        have hn : (atL A.links[j] 0 P.acs).toNat < P.acs.length := by omega
        obtain ⟨ad, u1, u2, u3, rfl, _, y0, y1, y2, y3, y4, _, ym⟩ := (hs.keepN k2).get hn
        have eh := hasInt_run (base := base) (v := A.pid) (h := h2) (by have := (hM.2.2.2.1 _ (List.getElem_mem hn)).2.2; omega) ym
        rw [aD hn]
        exact bS ((oP.keepN k2).at0 (i := 1) rfl) (ifT ⟨cc, hlt2⟩ (bs rfl (bS y4 (bI ((oA.keepN k2).at0 (i := 0) rfl) (bs eh (bB rfl rfl))))))
      · rw [decide_eq_false cc, if_neg (by decide), if_neg (by decide)]
    cases cb : badLk P.acs A.pid A.links[j] with
    | true =>
      refine ⟨h2, ?_, k2⟩
      rw [Bool.true_or, if_pos rfl]
      exact loop_off (by decide) (head (by rw [cb]; exact ifT rfl rfl))
    | false =>
      rw [Bool.false_or]
      obtain ⟨h4, y1, y2⟩ := ihd (j + 1) h2 (by omega) (hs.keepN k2) (oP.keepN k2) (oA.keepN k2) (hl.keepN k2) (by omega)
      refine ⟨h4, loop_on (head ?_) y1, kN k2 y2⟩
      rw [cb, w64i (n := (j : Int) + 1) (by omega) (by omega)]
      exact ifF (by decide) rfl

theorem implPlainOk_loop {base f pb : Nat} {p : Nat → Prop} {P : Pl} {a b c : Option Addr} (hM : PlM P) : ∀ (d i : Nat) (h : AH), i + d = P.acs.length → AsR h p f P.acs b → Own base 32 h (at0 pb) (plV a P.code.length b P.acs.length P.next c P.out.length) → Sl h a (insR P.code) → base ≤ h.length →
    ∃ h', loopL (B34_0 base) [some (.pointer (at0 pb)), some (.slice b P.acs.length P.acs.length), some (.int .i64 (P.acs.length : Int)), some (.int .i64 (i : Int))] h = some (if anyA f P d i = true then (1, [some (.bool false)], h') else (2, [], h')) ∧ KB NoB h h' := by
  intro d
  have l1 := hM.1
  have l3 := hM.2.2.1
  induction d with
  | zero =>
    intro i h hi hs oP hc hb
    refine ⟨h, ?_, KB.refl _ _⟩
    rw [anyA, if_neg (by decide)]
    refine loop_off (by decide) ?_
    rw [B34_0_eq]
    refine ifF ?_ rfl
    simp; omega
  | succ d ihd =>
    intro i h hi hs oP hc hb
    have hlt : i < P.acs.length := by omega
    obtain ⟨ad, x1, x2, x3, rfl, _, g0, g1, g2, g3, g4, hm, hl⟩ := hs.get hlt
    obtain ⟨o1, k1, q1⟩ := box_own (base := base) (t := 52) (h := h) (cs := acV P.acs[i].pid P.acs[i].pc x1 P.acs[i].regs.length x2 P.acs[i].box.length x3 P.acs[i].links.length) hb rfl
    generalize hh1 : h ++ [some (⟨acV P.acs[i].pid P.acs[i].pc x1 P.acs[i].regs.length x2 P.acs[i].box.length x3 P.acs[i].links.length, 52⟩ : Blk)] = h1 at o1 k1 q1
    obtain ⟨h2, e2, k2⟩ := implActorOk_run (base := base) hM.2.1 l1 (hc.keepN k1) (hM.2.2.2.1 _ (List.getElem_mem hlt)) (hm.keep k1 fun _ _ h => h) (by omega)
    have n2 := k2.1
    have k02 := kN k1 k2
    have oP1 := oP.keepN k1
    have oP2 := oP1.keepN k2
    have o2 := o1.keepN k2
    obtain ⟨h3, e3, k3⟩ := implBoth_loop (base := base) (i := i) (bb := some ad) (n := P.acs.length) (v := (P.acs.length : Int)) hM (hM.2.2.2.1 _ (List.getElem_mem hlt)).2.2 P.acs[i].links.length 0 h2 (by omega) (hs.keepN k02) oP2 o2 (hl.keepN k02) (by omega)
    rw [List.drop_zero, show ((0 : Nat) : Int) = 0 from rfl] at e3
    have n3 := k3.1
    have mid : ∀ {r : Option (Nat × Slots × AH)}, (if preA f P i = true then some (1, [some (.bool false)], h2) else
        (loopL (B34_1 base) [some (.pointer (at0 pb)), some (.pointer (at0 h.length)), some (.slice (some ad) P.acs.length P.acs.length), some (.int .i64 (P.acs.length : Int)), some (.int .i64 (i : Int)), some (.slice x3 P.acs[i].links.length P.acs[i].links.length), some (.int .i64 (P.acs[i].links.length : Int)), some (.int .i64 (0 : Int))] h2).bind fun q31 =>
        (if q31.1 = 1 then ((sget q31.2.1 0).bind getB).bind fun b32 => some (1, [some (.bool b32)], q31.2.2)
        else (if q31.1 = 4 then ((sget q31.2.1 0).bind getA).bind fun d33 => ((sget (q31.2.1.tail) 0).bind getS).bind fun l34 => ((sget (q31.2.1.tail.tail) 0).bind (getI .i64)).bind fun n35 => ((sget (q31.2.1.tail.tail.tail) 0).bind (getI .i64)).bind fun n36 => some (0, [some (.pointer (some d33)), some (.slice l34.1 l34.2 l34.2), some (.int .i64 n35), some (.int .i64 (IntKind.wrap .i64 (n36 + (1 : Int))))], q31.2.2) else none))) = r →
        B34_0 base [some (.pointer (at0 pb)), some (.slice (some ad) P.acs.length P.acs.length), some (.int .i64 (P.acs.length : Int)), some (.int .i64 (i : Int))] h = r := by
      intro r hr
      rw [B34_0_eq]
      refine ifT (decide_eq_true (by omega)) (ifT ⟨by omega, by omega⟩ (bs rfl ?_))
      simp only [Int.toNat_natCast]
      refine bI g0 (bI g1 (bS g2 (bS g3 (bS g4 (nw hb rfl fun y ey => ?_)))))
      rw [hh1] at ey
      rw [ey]
      refine bj (q := ([some (.pointer (at0 pb)), some (.pointer (at0 h.length)), some (.slice (some ad) P.acs.length P.acs.length), some (.int .i64 (P.acs.length : Int)), some (.int .i64 (i : Int)), some (.bool (preA f P i))], h2)) ?_ (bs rfl (bs rfl (bS rfl (bI rfl (bI rfl (bB rfl ?_))))))
      · refine bS (oP1.at0 (i := 0) rfl) (bI (o1.at0 (i := 0) rfl) (bI (o1.at0 (i := 1) rfl) (bS (o1.at0 (i := 2) rfl) (bS (o1.at0 (i := 3) rfl) (bS (o1.at0 (i := 4) rfl) (bs e2 (bB rfl ?_)))))))
        unfold preA
        rw [aD hlt]
        by_cases c1 : (!acOk f P.code P.acs[i]) = true
        · rw [if_pos c1, if_pos c1]
        rw [if_neg c1, if_neg c1]
        refine bI (o2.at0 (i := 0) rfl) (bI (oP2.at0 (i := 2) rfl) ?_)
        by_cases c2 : decide (P.acs[i].pid ≥ P.next) = true
        · rw [if_pos c2, if_pos c2]
        rw [if_neg c2, if_neg c2]
        by_cases c3 : (i : Int) > 0
        · have hw : IntKind.wrap .i64 ((i : Int) - (1 : Int)) = ((i - 1 : Nat) : Int) := by rw [w64i (by omega) (by omega)]; omega
          have hp1 : i - 1 < P.acs.length := by omega
          obtain ⟨ad2, u1, u2, u3, ee, _, y0, _, _, _, _, _, _⟩ := (hs.keepN k02).get hp1
          injection ee with ee
          subst ee
          rw [aD hp1, decide_eq_true c3, hw, if_pos rfl, if_pos rfl]
          refine bS (oP2.at0 (i := 1) rfl) (ifT ⟨by omega, by omega⟩ (bs rfl ?_))
          simp only [Int.toNat_natCast]
          exact bI y0 (bI (o2.at0 (i := 0) rfl) rfl)
        · rw [decide_eq_false c3, if_neg (by decide), if_neg (by decide)]
      · by_cases cp : preA f P i = true
        · rw [if_pos cp] at hr ⊢
          exact hr
        · rw [if_neg cp] at hr ⊢
          exact bS (o2.at0 (i := 4) rfl) hr
    rw [anyA]
    unfold badA
    rw [aD hlt]
    by_cases cp : preA f P i = true
    · refine ⟨h2, ?_, k02⟩
      rw [if_pos cp, Bool.true_or, if_pos rfl]
      exact loop_off (by decide) (mid (ifT cp rfl))
    rw [if_neg cp]
    cases cb : anyLk P.acs P.acs[i].pid P.acs[i].links with
    | true =>
      rw [cb, if_pos rfl] at e3
      refine ⟨h3, ?_, kN k02 k3⟩
      rw [Bool.true_or, if_pos rfl]
      exact loop_off (by decide) (mid (ifF cp (bs e3 (ifT rfl (bB rfl rfl)))))
    | false =>
      rw [cb, if_neg (by decide)] at e3
      rw [Bool.false_or]
      have k03 := kN k02 k3
      obtain ⟨h4, y1, y2⟩ := ihd (i + 1) h3 (by omega) (hs.keepN k03) (oP.keepN k03) (hc.keepN k03) (by omega)
      refine ⟨h4, loop_on (mid (ifF cp (bs e3 (ifF (show ¬ (4 : Nat) = 1 by decide) (ifT rfl (bs rfl (bS rfl (bI rfl (bI rfl ?_))))))))) y1, kN k03 y2⟩
      rw [w64i (n := (i : Int) + 1) (by omega) (by omega)]
      rfl
theorem implPlainOk_run {base f : Nat} {h : AH} {p : Nat → Prop} {P : Pl} {cs : List Value} (hM : PlM P) (x : PlR h p f P cs) (hb : base ≤ h.length) :
    ∃ h', run (Et base) 34 [.agg cs.toArray] h = some (.bool (plOk f P), h') ∧ KB NoB h h' := by
  obtain ⟨a, b, c, rfl, hc, _, hs, ho⟩ := x
  obtain ⟨o1, k1, q1⟩ := box_own (base := base) (t := 32) (h := h) (cs := plV a P.code.length b P.acs.length P.next c P.out.length) hb rfl
  generalize hh1 : h ++ [some (⟨plV a P.code.length b P.acs.length P.next c P.out.length, 32⟩ : Blk)] = h1 at o1 k1 q1
  obtain ⟨h2, e2, k2⟩ := implCodeOk_run (base := base) hM.2.1 hM.1 (hc.keepN k1) (by omega)
  have n2 := k2.1
  have k02 := kN k1 k2
  have o2 := o1.keepN k2
  have eI := in_run (base := base) (h := h2) (x := P.next) (a := 1) (b := 90000)
  obtain ⟨h3, e3, k3⟩ := outOk_run (base := base) hM.2.2.2.2 (ho.keep k02 fun _ _ h => h) (by omega)
  have n3 := k3.1
  have k03 := kN k02 k3
  have o3 := o2.keepN k3
  obtain ⟨h4, e4, k4⟩ := implPlainOk_loop (base := base) (pb := h.length) hM P.acs.length 0 h3 (by omega) (hs.keepN k03) o3 (hc.keepN k03) (by omega)
  rw [show ((0 : Nat) : Int) = 0 from rfl] at e4
  unfold plOk
  have fin : ∀ (q : Bool) (hz : AH) {r : Value × AH}, (hq : (if (!codeOk P.code) = true then some (Sum.inl (([some (.pointer (at0 h.length)), some (.bool true)], h2))) else if decide ((P.acs.length : Int) > 20) = true then some (Sum.inl (([some (.pointer (at0 h.length)), some (.bool true)], h2))) else if (!inB P.next 1 90000) = true then some (Sum.inl (([some (.pointer (at0 h.length)), some (.bool true)], h2))) else some (Sum.inl (([some (.pointer (at0 h.length)), some (.bool (!saidOk f P.out))], h3)))) = some (Sum.inl (([some (.pointer (at0 h.length)), some (.bool q)], hz)) : Sum (Slots × AH) (Value × AH))) →
      (if q = true then some ((.bool false), hz) else ((cell hz h.length 1).bind getS).bind fun l15 => (loopL (B34_0 base) [some (.pointer (at0 h.length)), some (.slice l15.1 l15.2 l15.2), some (.int .i64 ((l15.2 : Nat) : Int)), some (.int .i64 (0 : Int))] hz).bind fun q15 => (if q15.1 = 1 then ((sget q15.2.1 0).bind getB).bind fun b16 => some ((.bool b16), q15.2.2) else (if q15.1 = 2 then some ((.bool true), q15.2.2) else none))) = some r → run (Et base) 34 [.agg (plV a P.code.length b P.acs.length P.next c P.out.length).toArray] h = some r := by
    intro q hz r hq hr
    refine r34 (lets fun y ey => ?_)
    rw [hh1] at ey
    rw [ey]
    refine bj (q := ([some (.pointer (at0 h.length)), some (.bool q)], hz)) ?_ (bs rfl (bB rfl hr))
    rw [← hq]
    refine bS (o1.at0 (i := 0) rfl) (bs e2 (bB rfl ?_))
    by_cases c1 : (!codeOk P.code) = true
    · rw [if_pos c1, if_pos c1]
    rw [if_neg c1, if_neg c1]
    refine bS (o2.at0 (i := 1) rfl) ?_
    by_cases c3 : decide ((P.acs.length : Int) > 20) = true
    · rw [if_pos c3, if_pos c3]
    rw [if_neg c3, if_neg c3]
    refine bI (o2.at0 (i := 2) rfl) (bs eI (bB rfl ?_))
    by_cases c2 : (!inB P.next 1 90000) = true
    · rw [if_pos c2, if_pos c2]
    rw [if_neg c2, if_neg c2]
    exact bS (o2.at0 (i := 3) rfl) (bs e3 (bB rfl rfl))
  by_cases c1 : codeOk P.code = true
  · rw [c1, Bool.true_and]
    by_cases c3 : (P.acs.length : Int) > 20
    · refine ⟨h2, fin true h2 (by rw [c1]; simp [c3]) ?_, k02⟩
      simp [c3]
    by_cases c2 : inB P.next 1 90000 = true
    · rw [c2, Bool.true_and, decide_eq_true c3, Bool.true_and]
      by_cases c4 : saidOk f P.out = true
      · rw [c4, Bool.true_and]
        refine ⟨h4, fin false h3 (by rw [c1, c2, c4]; simp [c3]) (ifF (by decide) (bS (o3.at0 (i := 1) rfl) (bs e4 ?_))), kN k03 k4⟩
        cases anyA f P P.acs.length 0 with
        | true => exact ifT rfl (bB rfl rfl)
        | false => exact ifF (show ¬ (2 : Nat) = 1 by decide) (ifT rfl rfl)
      · refine ⟨h3, fin true h3 (by rw [c1, c2]; simp [c3, c4]) ?_, k03⟩
        simp [c4]
    · refine ⟨h2, fin true h2 (by rw [c1]; simp [c2, c3]) ?_, k02⟩
      simp [c2]
  · refine ⟨h2, fin true h2 (by simp [c1]) ?_, k02⟩
    simp [c1]

theorem qP {base t n : Nat} {h : AH} {a b g : Option Addr} {x y z : Nat} {v : Int} (o : Own base t h (at0 n) (plV a x b y v g z)) {β : Type} {f : Option Addr × Nat → Option Addr × Nat → Int → Option Addr × Nat → Option β} {r : Option β} (hf : f (a, x) (b, y) v (g, z) = r) :
    (((Am.cell h n 0).bind getS).bind fun l1 => ((Am.cell h n 1).bind getS).bind fun l2 => ((Am.cell h n 2).bind (getI .i64)).bind fun n3 => ((Am.cell h n 3).bind getS).bind fun l4 => f l1 l2 n3 l4) = r :=
  bS (o.at0 (i := 0) rfl) (bS (o.at0 (i := 1) rfl) (bI (o.at0 (i := 2) rfl) (bS (o.at0 (i := 3) rfl) hf)))

/-! as it is read -/
theorem AcR.le {h : AH} {p : Nat → Prop} {f f' : Nat} (hf : f ≤ f') {A : Ac} {cs : List Value} (x : AcR h p f A cs) : AcR h p f' A cs := by
  obtain ⟨a, b, g, e, h1, h2, h3⟩ := x
  exact ⟨a, b, g, e, h1.le hf, h2.le hf, h3⟩
theorem AsR.le {h : AH} {p : Nat → Prop} {f f' : Nat} (hf : f ≤ f') {l : List Ac} {a : Option Addr} (x : AsR h p f l a) : AsR h p f' l a := by
  obtain ⟨vs, h1, h2, h3, h4⟩ := x
  exact ⟨vs, h1, h2, h3, fun i y hy => (h4 i y hy).le hf⟩
end Go.Proofs.Ytolcnednfbbnnaa.Am


set_option linter.unusedSimpArgs false
set_option linter.unusedVariables false
namespace Go.Proofs.Ytolcnednfbbnnaa.Am
open Go Go.RowKit

/-- The number nought. -/
abbrev tm0 : Tm := .mk 1 0 ⟨#[]⟩ []
theorem tm0D {base f : Nat} {S : Fp} {h : AH} : TmG base (f + 1) S h tm0 (termV 1 0 ⟨#[]⟩ none 0) := ⟨by decide, by decide, none, rfl, RowO.nil⟩
def newOk (f : Nat) (pid pc : Int) (t : Tm) : Bool := inB pid 1 99999 && (!decide (pc < 0) && tOk f t)
def newRegs (t : Tm) : Nat → List Tm
  | 0 => [t]
  | n + 1 => newRegs t n ++ [tm0]
theorem newRegs_len (t : Tm) : ∀ n, (newRegs t n).length = n + 1
  | 0 => rfl
  | n + 1 => by simp [newRegs, newRegs_len t n]
def newA (f : Nat) (pid pc : Int) (t : Tm) : Ac := if newOk f pid pc t = true then ⟨pid, pc, newRegs t 7, [], []⟩ else ⟨0, 0, [], [], []⟩

theorem implNew_loop {base f b0 b1 : Nat} {t : Tm} {pid pc : Int} {lo : Nat} (hlo : base ≤ lo) (h1 : lo ≤ b1) : ∀ (d i : Nat) (h : AH) (ao : Option Addr) (vs : List Value) (T : Fp), i + d = 7 → b1 < h.length → Own base 52 h (at0 b1) (acV pid pc ao (i + 1) none 0 none 0) → Own base 38 h ao vs → vs.length = (i + 1) * 4 → Chunks 4 (TmG base (f + 1)) T h (newRegs t i) vs → (∀ b, T b → lo ≤ b ∧ b < h.length ∧ b ≠ b1) → (∀ b, blk ao b → ¬ T b ∧ lo ≤ b ∧ b ≠ b1) →
    ∃ h' ao' vs' T', loopL (B46_0 base) [some (.pointer (at0 b0)), some (.pointer (at0 b1))] h = some (2, [some (.pointer (at0 b0)), some (.pointer (at0 b1))], h') ∧ Own base 52 h' (at0 b1) (acV pid pc ao' 8 none 0 none 0) ∧ Own base 38 h' ao' vs' ∧ vs'.length = 8 * 4 ∧ Chunks 4 (TmG base (f + 1)) T' h' (newRegs t 7) vs' ∧
      (∀ b, T' b → lo ≤ b ∧ b < h'.length ∧ b ≠ b1) ∧ (∀ b, blk ao' b → ¬ T' b ∧ lo ≤ b ∧ b ≠ b1) ∧ KB (fun b => lo ≤ b ∧ (b = b1 ∨ blk ao b ∨ h.length ≤ b)) h h' := by
  intro d
  induction d with
  | zero =>
    intro i h ao vs T hi hb1 oa ow hv hc hT ha
    have hi' : i = 7 := by omega
    subst hi'
    refine ⟨h, ao, vs, T, ?_, oa, ow, hv, hc, hT, ha, KB.refl _ _⟩
    refine loop_off (by decide) ?_
    rw [B46_0_eq]
    exact bS (oa.at0 (i := 2) rfl) (ifF (by simp) rfl)
  | succ d ihd =>
    intro i h ao vs T hi hb1 oa ow hv hc hT ha
    obtain ⟨a3, h3, e3, o3, k3, b3, n3⟩ := app1 (bytes := 56) ow (n := i + 1) (sz := 4) (cs := termV 1 0 ⟨#[]⟩ none 0) hv rfl (by decide) rfl (by omega) (by omega) (by omega)
    have oa3 := oa.keep k3 fun b hb hk => by rw [blk_at0] at hb; exact (ha b hk).2.2 hb
    obtain ⟨h4, w4, oa4, k4, l4⟩ := oa3.wr0 (i := 2) (new := [.slice a3 (i + 1 + 1) (i + 1 + 1)]) (by simp) (by simp)
    have hset : setAt (acV pid pc ao (i + 1) none 0 none 0) 2 [.slice a3 (i + 1 + 1) (i + 1 + 1)] = acV pid pc a3 (i + 1 + 1) none 0 none 0 := rfl
    rw [hset] at oa4
    have hao : ∀ b, blk ao b → b < h.length := fun b hb => (ow.lt hb).2
    have ch := ((hc.snoc (vs' := vs ++ termV 1 0 ⟨#[]⟩ none 0) (S' := T) (T := fun _ => False) (tm0D (f := f)) (fun _ h => h.elim) (fun b hb => hb) (fun _ h => h.elim) (fun q hq => chunk_app_other (by rw [newRegs_len] at hq; have := mul_le' (w := 4) hq; omega)) (by
      rw [newRegs_len]
      exact chunk_app_self rfl hv)).keep (TmG.kp _ _) k3 (fun b hb hk => (ha b hk).1 hb)).keep (TmG.kp _ _) k4 (fun b hb hk => (hT b hb).2.2 hk)
    have o4 := o3.keepB k4 fun b hb => by have := b3 b hb; omega
    have k04 : KB (fun b => blk ao b ∨ b = b1) h h4 := KB.trans k3 k4 (fun _ _ h => .inl h) (fun _ _ h => .inr h)
    obtain ⟨h5, a5, vs5, T5, y1, y2, y3, y4, y5, y6, y7, y8⟩ := ihd (i + 1) h4 a3 (vs ++ termV 1 0 ⟨#[]⟩ none 0) T (by omega) (by omega) oa4 o4 (by simp; omega) ch (fun b hb => by have := hT b hb; exact ⟨this.1, by omega, this.2.2⟩) (fun b hb => by
      have := b3 b hb
      subst this
      exact ⟨fun hb => by have := hT _ hb; omega, by omega, by omega⟩)
    refine ⟨h5, a5, vs5, T5, ?_, y2, y3, y4, y5, y6, y7, KB.trans k04 y8 (fun b _ hb => ?_) (fun b hbl hb => ?_)⟩
    · refine loop_on ?_ y1
      rw [B46_0_eq]
      refine bS (oa.at0 (i := 2) rfl) (ifT (decide_eq_true (by simp; omega)) (bS (oa.at0 (i := 2) rfl) (lets fun y ey => ?_)))
      subst ey
      exact bs e3 (bS rfl (bs w4 rfl))
    · rcases hb with hb | hb
      · exact ⟨(ha b hb).2.1, .inr (.inl hb)⟩
      · exact ⟨by omega, .inl hb⟩
    · refine ⟨hb.1, ?_⟩
      rcases hb.2 with hb | hb | hb
      · exact .inl hb
      · have := b3 b hb; omega
      · omega
theorem specNew_loop {base f b0 b1 : Nat} {t : Tm} {pid pc : Int} {lo : Nat} (hlo : base ≤ lo) (h1 : lo ≤ b1) : ∀ (d i : Nat) (h : AH) (ao : Option Addr) (vs : List Value) (T : Fp), i + d = 7 → b1 < h.length → Own base 52 h (at0 b1) (acV pid pc ao (i + 1) none 0 none 0) → Own base 38 h ao vs → vs.length = (i + 1) * 4 → Chunks 4 (TmG base (f + 1)) T h (newRegs t i) vs → (∀ b, T b → lo ≤ b ∧ b < h.length ∧ b ≠ b1) → (∀ b, blk ao b → ¬ T b ∧ lo ≤ b ∧ b ≠ b1) →
    ∃ h' ao' vs' T', loopL (B42_0 base) [some (.pointer (at0 b0)), some (.pointer (at0 b1)), some (.int .i64 ((i + 1 : Nat) : Int))] h = some (2, [some (.pointer (at0 b0)), some (.pointer (at0 b1))], h') ∧ Own base 52 h' (at0 b1) (acV pid pc ao' 8 none 0 none 0) ∧ Own base 38 h' ao' vs' ∧ vs'.length = 8 * 4 ∧ Chunks 4 (TmG base (f + 1)) T' h' (newRegs t 7) vs' ∧
      (∀ b, T' b → lo ≤ b ∧ b < h'.length ∧ b ≠ b1) ∧ (∀ b, blk ao' b → ¬ T' b ∧ lo ≤ b ∧ b ≠ b1) ∧ KB (fun b => lo ≤ b ∧ (b = b1 ∨ blk ao b ∨ h.length ≤ b)) h h' := by
  intro d
  induction d with
  | zero =>
    intro i h ao vs T hi hb1 oa ow hv hc hT ha
    have hi' : i = 7 := by omega
    subst hi'
    refine ⟨h, ao, vs, T, ?_, oa, ow, hv, hc, hT, ha, KB.refl _ _⟩
    refine loop_off (by decide) ?_
    rw [B42_0_eq]
    exact ifF (by decide) rfl
  | succ d ihd =>
    intro i h ao vs T hi hb1 oa ow hv hc hT ha
    obtain ⟨oz, kz, nz⟩ := box_own (base := base) (t := 38) (h := h) (cs := termV 1 0 ⟨#[]⟩ none 0) (by omega) rfl
    generalize hhz : h ++ [some (⟨termV 1 0 ⟨#[]⟩ none 0, 38⟩ : Blk)] = hz at oz kz nz
    have ez : run (Et base) 102 [.int .i64 0] h = some (.agg (termV 1 0 ⟨#[]⟩ none 0).toArray, hz) := by
      refine r102 (nw (by omega) rfl fun y ey => ?_)
      rw [hhz] at ey
      subst ey
      exact q4 oz rfl
    have oaz := oa.keepN kz
    obtain ⟨a3, h3, e3, o3, k3, b3, n3⟩ := app1 (bytes := 56) (ow.keepN kz) (n := i + 1) (sz := 4) (cs := termV 1 0 ⟨#[]⟩ none 0) hv rfl (by decide) rfl (by omega) (by omega) (by omega)
    have oa3 := oaz.keep k3 fun b hb hk => by rw [blk_at0] at hb; exact (ha b hk).2.2 hb
    obtain ⟨h4, w4, oa4, k4, l4⟩ := oa3.wr0 (i := 2) (new := [.slice a3 (i + 1 + 1) (i + 1 + 1)]) (by simp) (by simp)
    have hset : setAt (acV pid pc ao (i + 1) none 0 none 0) 2 [.slice a3 (i + 1 + 1) (i + 1 + 1)] = acV pid pc a3 (i + 1 + 1) none 0 none 0 := rfl
    rw [hset] at oa4
    have hao : ∀ b, blk ao b → b < h.length := fun b hb => (ow.lt hb).2
    have ch := (((hc.keep (TmG.kp _ _) kz fun _ _ h => h).snoc (vs' := vs ++ termV 1 0 ⟨#[]⟩ none 0) (S' := T) (T := fun _ => False) (tm0D (f := f)) (fun _ h => h.elim) (fun b hb => hb) (fun _ h => h.elim) (fun q hq => chunk_app_other (by rw [newRegs_len] at hq; have := mul_le' (w := 4) hq; omega)) (by
      rw [newRegs_len]
      exact chunk_app_self rfl hv)).keep (TmG.kp _ _) k3 (fun b hb hk => (ha b hk).1 hb)).keep (TmG.kp _ _) k4 (fun b hb hk => (hT b hb).2.2 hk)
    have o4 := o3.keepB k4 fun b hb => by have := b3 b hb; omega
    have k04 : KB (fun b => blk ao b ∨ b = b1) h h4 := KB.trans (KB.trans kz k3 (fun _ _ h => h.elim) (fun _ _ h => h)) k4 (fun _ _ h => .inl h) (fun _ _ h => .inr h)
    obtain ⟨h5, a5, vs5, T5, y1, y2, y3, y4, y5, y6, y7, y8⟩ := ihd (i + 1) h4 a3 (vs ++ termV 1 0 ⟨#[]⟩ none 0) T (by omega) (by omega) oa4 o4 (by simp; omega) ch (fun b hb => by have := hT b hb; exact ⟨this.1, by omega, this.2.2⟩) (fun b hb => by
      have := b3 b hb
      subst this
      exact ⟨fun hb => by have := hT _ hb; omega, by omega, by omega⟩)
    refine ⟨h5, a5, vs5, T5, ?_, y2, y3, y4, y5, y6, y7, KB.trans k04 y8 (fun b _ hb => ?_) (fun b hbl hb => ?_)⟩
    · refine loop_on ?_ y1
      rw [B42_0_eq]
      refine ifT (decide_eq_true (by omega)) (bS (oa.at0 (i := 2) rfl) (bs ez (bs (v := termV 1 0 ⟨#[]⟩ none 0) rfl (bI rfl (bI rfl (bT rfl (bS rfl ?_)))))))
      rw [gate_pos (same_keep kz (oa.at0 (i := 2) rfl)), gate_pos (by
        intro x hx
        injection hx with hx
        subst hx
        show b1 ≠ hz.length
        omega)]
      refine lets fun y ey => ?_
      subst ey
      refine bs e3 (bS rfl (bs w4 ?_))
      rw [w64i (n := ((i + 1 : Nat) : Int) + 1) (by omega) (by omega)]
      rfl
    · rcases hb with hb | hb
      · exact ⟨(ha b hb).2.1, .inr (.inl hb)⟩
      · exact ⟨by omega, .inl hb⟩
    · refine ⟨hb.1, ?_⟩
      rcases hb.2 with hb | hb | hb
      · exact .inl hb
      · have := b3 b hb; omega
      · omega

theorem newOk_join {base f b0 b1 F : Nat} (hF : ∀ (h : AH) (p : Nat → Prop) (k n : Int) (s : ByteArray) (a : Option Addr) (m : Nat) (t : Tm), TmR h p f t (termV k n s a m) → base ≤ h.length → ∃ h', run (Et base) F [.agg (termV k n s a m).toArray] h = some (.bool (tOk f t), h') ∧ KB NoB h h') {h : AH} {p : Nat → Prop} {t : Tm} {pid pc k n : Int} {s : ByteArray} {a : Option Addr} {m : Nat} (hb : base ≤ h.length) (o : Own base 38 h (at0 b0) (termV k n s a m)) (ht : TmR h p f t (termV k n s a m)) :
    ∃ h', (if (!inB pid 1 99999) = true then
some (.inl ([some (.int .i64 pid), some (.int .i64 pc), some (.pointer (at0 b0)), some (.pointer (at0 b1)), some (.bool true)], h))
else
(if (decide (pc < (0 : Int))) = true then
some (.inl ([some (.int .i64 pid), some (.int .i64 pc), some (.pointer (at0 b0)), some (.pointer (at0 b1)), some (.bool true)], h))
else
((cell h b0 0).bind (getI .i64)).bind fun n6 =>
((cell h b0 1).bind (getI .i64)).bind fun n7 =>
((cell h b0 2).bind getStr).bind fun s8 =>
((cell h b0 3).bind getS).bind fun l9 =>
(run (Et base) F [(.agg #[(.int .i64 n6), (.int .i64 n7), (.string s8), (.slice l9.1 l9.2 l9.2)])] h).bind fun r10 =>
((some r10.1).bind getB).bind fun b11 =>
some (.inl ([some (.int .i64 pid), some (.int .i64 pc), some (.pointer (at0 b0)), some (.pointer (at0 b1)), some (.bool (!b11))], r10.2)))) = some (Sum.inl (([some (.int .i64 pid), some (.int .i64 pc), some (.pointer (at0 b0)), some (.pointer (at0 b1)), some (.bool (!newOk f pid pc t))], h') : Slots × AH) : Sum (Slots × AH) (Value × AH)) ∧ KB NoB h h' := by
  unfold newOk
  cases c1 : inB pid 1 99999 with
  | false => exact ⟨h, ifT rfl rfl, KB.refl _ _⟩
  | true =>
    cases c2 : decide (pc < 0) with
    | true => exact ⟨h, ifF (by decide) (ifT rfl rfl), KB.refl _ _⟩
    | false =>
      obtain ⟨h', e, k⟩ := hF h p k n s a m t ht hb
      refine ⟨h', ifF (by decide) (ifF (by decide) (q4 o (bs e (bB rfl ?_)))), k⟩
      simp

theorem newTail {base f : Nat} {h h1 : AH} {t : Tm} {pid pc : Int} {a : Option Addr} {n : Nat} (hb : base ≤ h.length) (hk : KB NoB h h1) {ad : Option Addr} {vs : List Value} {T : Fp} (hn : n = (newRegs t 7).length) (ow : Own base 38 h1 ad vs) (hv : vs.length = 8 * 4) (hc : Chunks 4 (TmG base (f + 1)) T h1 (newRegs t 7) vs) (hT : ∀ b, T b → h.length ≤ b ∧ b < h1.length) (ha : ∀ b, blk ad b → ¬ T b ∧ h.length ≤ b) :
    AcG base (f + 1) (iS h.length h1.length) h1 ⟨pid, pc, newRegs t 7, [], []⟩ (acV pid pc ad 8 none 0 none 0) := by
  have hl := newRegs_len t 7
  refine ⟨ad, none, none, iS h.length h1.length, fun _ => False, fun _ => False, by simp only [hl]; rfl, ⟨vs, T, ow, by rw [hl]; exact hv, fun b hb' => ⟨⟨(ha b hb').2, (ow.lt hb').2⟩, (ha b hb').1⟩, fun b hb' => hT b hb', hc⟩, RowO.nil, .inl ⟨rfl, rfl⟩, fun x hx => ?_, fun _ h => h, fun _ h => h.elim, fun _ h => h.elim, fun _ _ h => h, fun _ _ h => h, fun _ _ h => h⟩
  obtain ⟨_, e, _⟩ := hx
  cases e

def NewRun (base f F : Nat) : Prop := ∀ (h : AH) (p : Nat → Prop) (t : Tm) (cs : List Value) (pid pc : Int), TmR h p (f + 1) t cs → TmB (f + 1) t → base ≤ h.length → (∀ b, p b → b < h.length) →
    ∃ cs' h', run (Et base) F [.int .i64 pid, .int .i64 pc, .agg cs.toArray] h = some (.agg cs'.toArray, h') ∧ AcG base (f + 1) (iS h.length h'.length) h' (newA (f + 1) pid pc t) cs' ∧ KB NoB h h'

theorem zeroD {base f : Nat} {S : Fp} {h : AH} : AcG base f S h ⟨0, 0, [], [], []⟩ (acV 0 0 none 0 none 0 none 0) := by
  refine ⟨none, none, none, fun _ => False, fun _ => False, fun _ => False, rfl, RowO.nil, RowO.nil, .inl ⟨rfl, rfl⟩, fun x hx => ?_, fun _ h => h.elim, fun _ h => h.elim, fun _ h => h.elim, fun _ _ h => h, fun _ _ h => h, fun _ _ h => h⟩
  obtain ⟨_, e, _⟩ := hx
  cases e
end Go.Proofs.Ytolcnednfbbnnaa.Am


set_option linter.unusedSimpArgs false
set_option linter.unusedVariables false
namespace Go.Proofs.Ytolcnednfbbnnaa.Am
open Go Go.RowKit

theorem implNew_run {base f : Nat} : NewRun base f 46 := by
  intro h p t cs pid pc hm hB hb hp
  obtain ⟨k, n, s, a, m, rfl⟩ := hm.form
  obtain ⟨o1, k1, q1⟩ := box_own (base := base) (t := 38) (h := h) (cs := termV k n s a m) hb rfl
  generalize hh1 : h ++ [some (⟨termV k n s a m, 38⟩ : Blk)] = h1 at o1 k1 q1
  obtain ⟨o2, k2, q2⟩ := box_own (base := base) (t := 52) (h := h1) (cs := acV 0 0 none 0 none 0 none 0) (by omega) rfl
  generalize hh2 : h1 ++ [some (⟨acV 0 0 none 0 none 0 none 0, 52⟩ : Blk)] = h2 at o2 k2 q2
  have k02 := kN k1 k2
  obtain ⟨h3, e3, k3⟩ := newOk_join (base := base) (f := f + 1) (F := 71) (b1 := h1.length) (pid := pid) (pc := pc) (fun h p k n s a m t x y => implTermOk_run x y) (by omega) (o1.keepN k2) (TmR.keep k02 (fun _ _ h => h) _ _ _ hm)
  have n3 := k3.1
  have k03 := kN k02 k3
  have o13 := (o1.keepN k2).keepN k3
  have o23 := o2.keepN k3
  cases c : newOk (f + 1) pid pc t with
  | false =>
    rw [c] at e3
    obtain ⟨h4, w4, o4, k4, l4⟩ := o23.wr0 (i := 0) (new := acV 0 0 none 0 none 0 none 0) (by simp) (by simp)
    have hset : setAt (acV 0 0 none 0 none 0 none 0) 0 (acV 0 0 none 0 none 0 none 0) = acV 0 0 none 0 none 0 none 0 := rfl
    rw [hset] at o4
    refine ⟨acV 0 0 none 0 none 0 none 0, h4, r46 (lets fun y ey => ?_), by unfold newA; rw [c]; exact zeroD, kFresh k03 k4 fun i hi => by omega⟩
    rw [hh1] at ey
    subst ey
    refine lets fun y ey => ?_
    rw [hh2] at ey
    subst ey
    refine bj _ (bs in_run (bB rfl e3)) (bI rfl (bI rfl (bs rfl (bs rfl (bB rfl (ifT rfl (bs w4 (q5 o4 rfl))))))))
  | true =>
    rw [c] at e3
    obtain ⟨cs4, h4, e4, m4, k4⟩ := copyTermG_run (base := base) (f + 1) h3 p t _ (TmR.keep k03 (fun _ _ h => h) _ _ _ hm) hB (by omega) (fun b hb => by have := hp b hb; omega)
    obtain ⟨kk, nn, ss, aa, mm, rfl⟩ := m4.form
    have n4 := k4.1
    obtain ⟨o5, k5, q5'⟩ := box_own (base := base) (t := 38) (h := h4) (cs := termV kk nn ss aa mm) (by omega) rfl
    generalize hh5 : h4 ++ [some (⟨termV kk nn ss aa mm, 38⟩ : Blk)] = h5 at o5 k5 q5'
    obtain ⟨o6, k6, q6'⟩ := box_own (base := base) (t := 52) (h := h5) (cs := acV pid pc (at0 h4.length) 1 none 0 none 0) (by omega) rfl
    generalize hh6 : h5 ++ [some (⟨acV pid pc (at0 h4.length) 1 none 0 none 0, 52⟩ : Blk)] = h6 at o6 k6 q6'
    have ch : Chunks 4 (TmG base (f + 1)) (iS h3.length h4.length) h6 (newRegs t 0) (termV kk nn ss aa mm) := by
      have := (Chunks.nil (w := 4) (P := TmG base (f + 1)) (S := fun _ => False) (h := h6) (vs := [])).snoc (S' := iS h3.length h4.length) (vs' := termV kk nn ss aa mm) (((TmG.kp _ _ _ _ _ _ _ _ k5 (fun _ _ h => h) m4)) |> fun z => TmG.kp _ _ _ _ _ _ _ _ k6 (fun _ _ h => h) z) (fun _ _ h => h) (fun _ h => h.elim) (fun _ h => h) (fun i hi => by simp at hi) rfl
      exact this
    obtain ⟨h7, ao, vs, T, e7, o7, ow7, hv7, hc7, hT7, ha7, k7⟩ := implNew_loop (base := base) (f := f) (b0 := h1.length) (b1 := h5.length) (t := t) (pid := pid) (pc := pc) (lo := h3.length) (by omega) (by omega) 7 0 h6 (at0 h4.length) (termV kk nn ss aa mm) (iS h3.length h4.length) (by omega) (by omega) o6 (o5.keepN k6) rfl ch (fun b hb => by constructor <;> omega) (fun b hb => by rw [blk_at0] at hb; subst hb; exact ⟨fun h => by omega, by omega, by omega⟩)
    have n7 := k7.1
    have o27 := (((o23.keepN k4).keepN k5).keepN k6).keep k7 fun b hb hk => by rw [blk_at0] at hb; omega
    obtain ⟨h8, w8, o8, k8, l8⟩ := o27.wr0 (i := 0) (new := acV pid pc ao 8 none 0 none 0) (by simp) (by simp)
    have hset : setAt (acV 0 0 none 0 none 0 none 0) 0 (acV pid pc ao 8 none 0 none 0) = acV pid pc ao 8 none 0 none 0 := rfl
    rw [hset] at o8
    have k06 := kN (kN (kN k03 k4) k5) k6
    have k08 : KB NoB h h8 := kFresh (kFresh k06 k7 fun i hi => by omega) k8 fun i hi => by omega
    refine ⟨acV pid pc ao 8 none 0 none 0, h8, r46 (lets fun y ey => ?_), ?_, k08⟩
    · rw [hh1] at ey
      subst ey
      refine lets fun y ey => ?_
      rw [hh2] at ey
      subst ey
      refine bj _ (bs in_run (bB rfl e3)) (bI rfl (bI rfl (bs rfl (bs rfl (bB rfl (ifF (by decide) (q4 o13 (bs e4 ?_))))))))
      refine bs (v := termV kk nn ss aa mm) rfl (bI rfl (bI rfl (bT rfl (bS rfl (lets fun y ey => ?_)))))
      rw [hh5] at ey
      subst ey
      refine nw (by omega) rfl fun y ey => ?_
      rw [hh6] at ey
      subst ey
      refine bs e7 (ifT rfl (bs rfl (bs rfl (q5 o7 (bs w8 (q5 o8 rfl))))))
    · unfold newA
      rw [c, if_pos rfl]
      exact newTail (a := none) hb k08 (newRegs_len t 7).symm (ow7.keepB k8 fun b hb => by have := (ha7 b hb).2.1; omega) hv7 (hc7.keep (TmG.kp _ _) k8 fun b hb hk => by have := hT7 b hb; omega) (fun b hb => by have := hT7 b hb; constructor <;> omega) (fun b hb => ⟨(ha7 b hb).1, by have := (ha7 b hb).2.1; omega⟩)
theorem specNew_run {base f : Nat} : NewRun base f 42 := by
  intro h p t cs pid pc hm hB hb hp
  obtain ⟨k, n, s, a, m, rfl⟩ := hm.form
  obtain ⟨o1, k1, q1⟩ := box_own (base := base) (t := 38) (h := h) (cs := termV k n s a m) hb rfl
  generalize hh1 : h ++ [some (⟨termV k n s a m, 38⟩ : Blk)] = h1 at o1 k1 q1
  obtain ⟨o2, k2, q2⟩ := box_own (base := base) (t := 52) (h := h1) (cs := acV 0 0 none 0 none 0 none 0) (by omega) rfl
  generalize hh2 : h1 ++ [some (⟨acV 0 0 none 0 none 0 none 0, 52⟩ : Blk)] = h2 at o2 k2 q2
  have k02 := kN k1 k2
  obtain ⟨h3, e3, k3⟩ := newOk_join (base := base) (f := f + 1) (F := 95) (b1 := h1.length) (pid := pid) (pc := pc) (fun h p k n s a m t x y => specTermOk_run x y) (by omega) (o1.keepN k2) (TmR.keep k02 (fun _ _ h => h) _ _ _ hm)
  have n3 := k3.1
  have k03 := kN k02 k3
  have o13 := (o1.keepN k2).keepN k3
  have o23 := o2.keepN k3
  cases c : newOk (f + 1) pid pc t with
  | false =>
    rw [c] at e3
    obtain ⟨h4, w4, o4, k4, l4⟩ := o23.wr0 (i := 0) (new := acV 0 0 none 0 none 0 none 0) (by simp) (by simp)
    have hset : setAt (acV 0 0 none 0 none 0 none 0) 0 (acV 0 0 none 0 none 0 none 0) = acV 0 0 none 0 none 0 none 0 := rfl
    rw [hset] at o4
    refine ⟨acV 0 0 none 0 none 0 none 0, h4, r42 (lets fun y ey => ?_), by unfold newA; rw [c]; exact zeroD, kFresh k03 k4 fun i hi => by omega⟩
    rw [hh1] at ey
    subst ey
    refine lets fun y ey => ?_
    rw [hh2] at ey
    subst ey
    refine bj _ (bs l1In_run (bB rfl e3)) (bI rfl (bI rfl (bs rfl (bs rfl (bB rfl (ifT rfl (bs w4 (q5 o4 rfl))))))))
  | true =>
    rw [c] at e3
    obtain ⟨cs4, h4, e4, m4, k4⟩ := l1CopyG_run (base := base) (f + 1) h3 p t _ (TmR.keep k03 (fun _ _ h => h) _ _ _ hm) hB (by omega) (fun b hb => by have := hp b hb; omega)
    obtain ⟨kk, nn, ss, aa, mm, rfl⟩ := m4.form
    have n4 := k4.1
    obtain ⟨o5, k5, q5'⟩ := box_own (base := base) (t := 38) (h := h4) (cs := termV kk nn ss aa mm) (by omega) rfl
    generalize hh5 : h4 ++ [some (⟨termV kk nn ss aa mm, 38⟩ : Blk)] = h5 at o5 k5 q5'
    obtain ⟨o6, k6, q6'⟩ := box_own (base := base) (t := 52) (h := h5) (cs := acV pid pc (at0 h4.length) 1 none 0 none 0) (by omega) rfl
    generalize hh6 : h5 ++ [some (⟨acV pid pc (at0 h4.length) 1 none 0 none 0, 52⟩ : Blk)] = h6 at o6 k6 q6'
    have ch : Chunks 4 (TmG base (f + 1)) (iS h3.length h4.length) h6 (newRegs t 0) (termV kk nn ss aa mm) := by
      have := (Chunks.nil (w := 4) (P := TmG base (f + 1)) (S := fun _ => False) (h := h6) (vs := [])).snoc (S' := iS h3.length h4.length) (vs' := termV kk nn ss aa mm) (((TmG.kp _ _ _ _ _ _ _ _ k5 (fun _ _ h => h) m4)) |> fun z => TmG.kp _ _ _ _ _ _ _ _ k6 (fun _ _ h => h) z) (fun _ _ h => h) (fun _ h => h.elim) (fun _ h => h) (fun i hi => by simp at hi) rfl
      exact this
    obtain ⟨h7, ao, vs, T, e7, o7, ow7, hv7, hc7, hT7, ha7, k7⟩ := specNew_loop (base := base) (f := f) (b0 := h1.length) (b1 := h5.length) (t := t) (pid := pid) (pc := pc) (lo := h3.length) (by omega) (by omega) 7 0 h6 (at0 h4.length) (termV kk nn ss aa mm) (iS h3.length h4.length) (by omega) (by omega) o6 (o5.keepN k6) rfl ch (fun b hb => by constructor <;> omega) (fun b hb => by rw [blk_at0] at hb; subst hb; exact ⟨fun h => by omega, by omega, by omega⟩)
    have n7 := k7.1
    have o27 := (((o23.keepN k4).keepN k5).keepN k6).keep k7 fun b hb hk => by rw [blk_at0] at hb; omega
    obtain ⟨h8, w8, o8, k8, l8⟩ := o27.wr0 (i := 0) (new := acV pid pc ao 8 none 0 none 0) (by simp) (by simp)
    have hset : setAt (acV 0 0 none 0 none 0 none 0) 0 (acV pid pc ao 8 none 0 none 0) = acV pid pc ao 8 none 0 none 0 := rfl
    rw [hset] at o8
    have k06 := kN (kN (kN k03 k4) k5) k6
    have k08 : KB NoB h h8 := kFresh (kFresh k06 k7 fun i hi => by omega) k8 fun i hi => by omega
    refine ⟨acV pid pc ao 8 none 0 none 0, h8, r42 (lets fun y ey => ?_), ?_, k08⟩
    · rw [hh1] at ey
      subst ey
      refine lets fun y ey => ?_
      rw [hh2] at ey
      subst ey
      refine bj _ (bs l1In_run (bB rfl e3)) (bI rfl (bI rfl (bs rfl (bs rfl (bB rfl (ifF (by decide) (q4 o13 (bs e4 ?_))))))))
      refine bs (v := termV kk nn ss aa mm) rfl (bI rfl (bI rfl (bT rfl (bS rfl (lets fun y ey => ?_)))))
      rw [hh5] at ey
      subst ey
      refine nw (by omega) rfl fun y ey => ?_
      rw [hh6] at ey
      subst ey
      refine bs e7 (ifT rfl (bs rfl (bs rfl (q5 o7 (bs w8 (q5 o8 rfl))))))
    · unfold newA
      rw [c, if_pos rfl]
      exact newTail (a := none) hb k08 (newRegs_len t 7).symm (ow7.keepB k8 fun b hb => by have := (ha7 b hb).2.1; omega) hv7 (hc7.keep (TmG.kp _ _) k8 fun b hb hk => by have := hT7 b hb; omega) (fun b hb => by have := hT7 b hb; constructor <;> omega) (fun b hb => ⟨(ha7 b hb).1, by have := (ha7 b hb).2.1; omega⟩)
end Go.Proofs.Ytolcnednfbbnnaa.Am


set_option linter.unusedSimpArgs false
set_option linter.unusedVariables false
namespace Go.Proofs.Ytolcnednfbbnnaa.Am
open Go Go.RowKit

theorem markTerm_run {base f : Nat} {h : AH} {S : Fp} {t : Tm} {cs : List Value} {k : Int} (x : TmD (f + 1) S h t cs) (hS : ∀ b, S b → base ≤ b ∧ b < h.length) (hb : base ≤ h.length) (h0 : 0 ≤ k) (hk : k + 3 * ((tcnt (f + 1) t : Nat) : Int) ≤ 1000000000) :
    ∃ z h', run (Et base) 17 [.agg cs.toArray, .int .i64 k] h = some (.int .i64 z, h') ∧ 0 ≤ z ∧ KB S h h' := by
  obtain ⟨kk, n, s, l⟩ := t
  obtain ⟨h1, h2, a, rfl, r⟩ := x
  obtain ⟨o1, k1, q1⟩ := box_own (base := base) (t := 38) (h := h) (cs := termV kk n s a l.length) hb rfl
  generalize hh1 : h ++ [some (⟨termV kk n s a l.length, 38⟩ : Blk)] = h1 at o1 k1 q1
  simp only [tcnt] at hk
  obtain ⟨l', h3, e3, r3, len3, m3, k3⟩ := markTermS_run (base := base) f l h1 S a k (r.keep (TmD.kp _) k1 fun _ _ h => h) h2 (fun b hb => by have := hS b hb; omega) h0 (by omega)
  refine ⟨k + 3 * ((l.length + sumL (tcnt f) l : Nat) : Int), h3, r17 (lets fun y ey => ?_), by have := m3.le; omega, KB.trans k1 k3 (fun _ _ h => h.elim) (fun _ _ h => h)⟩
  rw [hh1] at ey
  subst ey
  exact bS (o1.at0 (i := 3) rfl) (bs e3 (bI rfl rfl))

theorem sumL_app {α : Type} (g : α → Nat) : ∀ (l r : List α), sumL g (l ++ r) = sumL g l + sumL g r
  | [], r => by simp [sumL]
  | x :: l, r => by simp only [List.cons_append, sumL, sumL_app g l r]; omega
end Go.Proofs.Ytolcnednfbbnnaa.Am


set_option linter.unusedSimpArgs false
set_option linter.unusedVariables false
namespace Go.Proofs.Ytolcnednfbbnnaa.Am
open Go Go.RowKit

theorem newRegs_cnt {f : Nat} (t : Tm) : ∀ n, sumL (tcnt (f + 1)) (newRegs t n) = tcnt (f + 1) t
  | 0 => by simp [newRegs, sumL]
  | n + 1 => by rw [newRegs, sumL_app, newRegs_cnt t n]; simp [sumL, tcnt]
theorem newA_le {f : Nat} {pid pc : Int} {t : Tm} : (newA f pid pc t).Le := by
  unfold newA Ac.Le
  split
  · simp only [newRegs_len, maxLen]; decide
  · simp only [maxLen]; decide
theorem newA_mc {f : Nat} {pid pc : Int} {t : Tm} (ht : tcnt (f + 1) t ≤ 1048576) : 0 ≤ mcA (f + 1) (newA (f + 1) pid pc t) ∧ mcA (f + 1) (newA (f + 1) pid pc t) ≤ 4000000 := by
  unfold newA
  split
  · unfold mcA mcL
    simp only [newRegs_len, newRegs_cnt, sumL, List.length_nil]
    omega
  · unfold mcA mcL
    simp only [sumL, List.length_nil]
    omega
end Go.Proofs.Ytolcnednfbbnnaa.Am


set_option linter.unusedSimpArgs false
set_option linter.unusedVariables false
namespace Go.Proofs.Ytolcnednfbbnnaa.Am
open Go Go.RowKit

/-- It answers, and the answer is such. -/
def Wp {β : Type} (o : Option β) (Q : β → Prop) : Prop := ∃ r, o = some r ∧ Q r
namespace W
variable {α β γ : Type} {Q : β → Prop}
theorem of {F R : Option β} (h : ∀ r, F = some r → R = some r) (w : Wp F Q) : Wp R Q := by
  obtain ⟨r, e, q⟩ := w
  exact ⟨r, h r e, q⟩
theorem ret {v : β} (q : Q v) : Wp (some v) Q := ⟨v, rfl, q⟩
theorem imp {o : Option β} {Q' : β → Prop} (h : ∀ r, Q r → Q' r) (w : Wp o Q) : Wp o Q' := by
  obtain ⟨r, e, q⟩ := w
  exact ⟨r, e, h r q⟩
theorem bs {x : Option α} {v : α} (h : x = some v) {f : α → Option β} (w : Wp (f v) Q) : Wp (x.bind f) Q := by rw [h]; exact w
theorem wb {x : Option α} {P : α → Prop} (h : Wp x P) {f : α → Option β} (w : ∀ v, P v → Wp (f v) Q) : Wp (x.bind f) Q := by
  obtain ⟨v, e, p⟩ := h
  rw [e]
  exact w v p
theorem bI {k : IntKind} {n : Int} {x : Option Value} (h : x = some (.int k n)) {f : Int → Option β} (w : Wp (f n) Q) : Wp ((x.bind (getI k)).bind f) Q := by subst h; simpa [getI] using w
theorem bS {a : Option Addr} {n c : Nat} {x : Option Value} (h : x = some (.slice a n c)) {f : Option Addr × Nat → Option β} (w : Wp (f (a, n)) Q) : Wp ((x.bind getS).bind f) Q := by subst h; exact w
theorem bT {s : ByteArray} {x : Option Value} (h : x = some (.string s)) {f : ByteArray → Option β} (w : Wp (f s) Q) : Wp ((x.bind getStr).bind f) Q := by subst h; exact w
theorem bB {b : Bool} {x : Option Value} (h : x = some (.bool b)) {f : Bool → Option β} (w : Wp (f b) Q) : Wp ((x.bind getB).bind f) Q := by subst h; exact w
theorem bA {a : Addr} {x : Option Value} (h : x = some (.pointer (some a))) {f : Addr → Option β} (w : Wp (f a) Q) : Wp ((x.bind getA).bind f) Q := by subst h; exact w
theorem ifT {c : Prop} [Decidable c] {a b : Option β} (h : c) (w : Wp a Q) : Wp (if c then a else b) Q := by rw [if_pos h]; exact w
theorem ifF {c : Prop} [Decidable c] {a b : Option β} (h : ¬ c) (w : Wp b Q) : Wp (if c then a else b) Q := by rw [if_neg h]; exact w
theorem ite {c : Prop} [Decidable c] {a b : Option β} (h1 : c → Wp a Q) (h2 : ¬ c → Wp b Q) : Wp (if c then a else b) Q := by
  by_cases h : c
  · rw [if_pos h]; exact h1 h
  · rw [if_neg h]; exact h2 h
theorem gt {p : Prop} {x : Option β} (h : p) (w : Wp x Q) : Wp (gate p x) Q := by rw [gate_pos h]; exact w
theorem joinP (P : γ → Prop) {x : Option (Sum γ β)} {k : γ → Option β} (w : Wp x (Sum.elim P Q)) (h : ∀ q, P q → Wp (k q) Q) : Wp (x.bind fun j => joinK j k) Q := by
  obtain ⟨r, e, q⟩ := w
  rw [e]
  cases r with
  | inl r => exact h r q
  | inr r => exact ⟨r, rfl, q⟩
theorem inl {P : γ → Prop} {v : γ} (q : P v) : Wp (some (Sum.inl v : Sum γ β)) (Sum.elim P Q) := ⟨_, rfl, q⟩
theorem inr {P : γ → Prop} {v : β} (q : Q v) : Wp (some (Sum.inr v : Sum γ β)) (Sum.elim P Q) := ⟨_, rfl, q⟩
theorem box {base t : Nat} {h : AH} {cs : List Value} {f : AH → Option β} (hb : base ≤ h.length) (w : ∀ h1, Own base t h1 (at0 h.length) cs → KB NoB h h1 → h1.length = h.length + 1 → Wp (f h1) Q) : Wp ((some (h ++ [some ⟨cs, t⟩])).bind f) Q := by
  obtain ⟨o1, k1, q1⟩ := box_own (base := base) (t := t) (h := h) (cs := cs) hb rfl
  exact w _ o1 k1 q1
theorem nw {base t : Nat} {h : AH} {zs cs : List Value} {f : AH → Option β} (hb : base ≤ h.length) (hl : cs.length = zs.length) (w : ∀ h1, Own base t h1 (at0 h.length) cs → KB NoB h h1 → h1.length = h.length + 1 → Wp (f h1) Q) :
    Wp ((some (h ++ [some ⟨zs, t⟩])).bind fun x => (Am.wr base x h.length 0 cs).bind f) Q := by
  obtain ⟨o1, k1, q1⟩ := box_own (base := base) (t := t) (h := h) (cs := cs) hb rfl
  obtain ⟨r, e, q⟩ := w _ o1 k1 q1
  exact ⟨r, Am.nw hb hl fun y ey => by rw [ey]; exact e, q⟩
theorem wr0 {base t b i : Nat} {h : AH} {vs new : List Value} {f : AH → Option β} (o : Own base t h (at0 b) vs) (hi : i + new.length ≤ vs.length) (h0 : 0 < new.length) (w : ∀ h1, Own base t h1 (at0 b) (setAt vs i new) → KB (· = b) h h1 → h1.length = h.length → Wp (f h1) Q) : Wp ((Am.wr base h b i new).bind f) Q := by
  obtain ⟨h1, e, o1, k1, l1⟩ := o.wr0 hi h0
  rw [e]
  exact w h1 o1 k1 l1
end W
theorem Wp.run {x : Option (Value × AH)} {v : Value} {P : AH → Prop} (w : Wp x fun r => r.1 = v ∧ P r.2) : ∃ h', x = some (v, h') ∧ P h' := by
  obtain ⟨⟨u, h⟩, e, q, p⟩ := w
  exact ⟨h, by rw [e]; simp only at q; rw [q], p⟩
end Go.Proofs.Ytolcnednfbbnnaa.Am


set_option linter.unusedSimpArgs false
set_option linter.unusedVariables false
namespace Go.Proofs.Ytolcnednfbbnnaa.Am
open Go Go.RowKit

theorem W.q4 {base t n : Nat} {h : AH} {k nn : Int} {s : ByteArray} {a : Option Addr} {m : Nat} (o : Own base t h (at0 n) (termV k nn s a m)) {β : Type} {Q : β → Prop} {f : Int → Int → ByteArray → Option Addr × Nat → Option β} (w : Wp (f k nn s (a, m)) Q) :
    Wp (((Am.cell h n 0).bind (getI .i64)).bind fun n1 => ((Am.cell h n 1).bind (getI .i64)).bind fun n2 => ((Am.cell h n 2).bind getStr).bind fun s3 => ((Am.cell h n 3).bind getS).bind fun l4 => f n1 n2 s3 l4) Q :=
  W.bI (o.at0 (i := 0) rfl) (W.bI (o.at0 (i := 1) rfl) (W.bT (o.at0 (i := 2) rfl) (W.bS (o.at0 (i := 3) rfl) w)))
theorem W.q5 {base t n : Nat} {h : AH} {p c : Int} {a b g : Option Addr} {x y z : Nat} (o : Own base t h (at0 n) (acV p c a x b y g z)) {β : Type} {Q : β → Prop} {f : Int → Int → Option Addr × Nat → Option Addr × Nat → Option Addr × Nat → Option β} (w : Wp (f p c (a, x) (b, y) (g, z)) Q) :
    Wp (((Am.cell h n 0).bind (getI .i64)).bind fun n1 => ((Am.cell h n 1).bind (getI .i64)).bind fun n2 => ((Am.cell h n 2).bind getS).bind fun l3 => ((Am.cell h n 3).bind getS).bind fun l4 => ((Am.cell h n 4).bind getS).bind fun l5 => f n1 n2 l3 l4 l5) Q :=
  W.bI (o.at0 (i := 0) rfl) (W.bI (o.at0 (i := 1) rfl) (W.bS (o.at0 (i := 2) rfl) (W.bS (o.at0 (i := 3) rfl) (W.bS (o.at0 (i := 4) rfl) w))))
/-- A term's four cells in an answer. -/
theorem W.g4 {k nn : Int} {s : ByteArray} {a : Option Addr} {m : Nat} {β : Type} {Q : β → Prop} {f : Int → Int → ByteArray → Option Addr × Nat → Option β} (w : Wp (f k nn s (a, m)) Q) :
    Wp (((some (Value.agg (termV k nn s a m).toArray)).bind (getAgg 4)).bind fun l => ((l[0]?).bind (getI .i64)).bind fun n1 => ((l[1]?).bind (getI .i64)).bind fun n2 => ((l[2]?).bind getStr).bind fun s3 => ((l[3]?).bind getS).bind fun l4 => f n1 n2 s3 l4) Q := w
theorem same_KB {S : Nat → Prop} {h h' : AH} (k : KB S h h') {b i n : Nat} (hb : b < h.length) (hS : ¬ S b) : sameA h h' (some ⟨b, i, none⟩) n := by
  intro ad e
  injection e with e
  subst e
  have hg := k.2 b hb hS
  exact ⟨fun j _ => by unfold Am.cell; simp only [hg], by simp only [hg]⟩
theorem ne_A {b o n : Nat} (h : b ≠ n) : neA (some ⟨b, o, none⟩) n := fun ad e => by
  injection e with e
  subst e
  exact h
end Go.Proofs.Ytolcnednfbbnnaa.Am


set_option linter.unusedSimpArgs false
set_option linter.unusedVariables false
namespace Go.Proofs.Ytolcnednfbbnnaa.Am
open Go Go.RowKit

theorem RowO.snoc {α : Type} {w : Nat} {P : Fp → AH → α → List Value → Prop} (kp : Kp P) {base t bytes : Nat} {S C : Fp} {h : AH} {l : List α} {a : Option Addr} (x : RowO base t w P S h l a) {y : α} {cs : List Value} (hy : P C h y cs) (hc : cs.length = w) (hw : 0 < w) (hlf : cs.all leaf = true) (hC : ∀ b, C b → ¬ S b) (hCb : ∀ b, C b → b < h.length) (hSb : ∀ b, S b → b < h.length) (hb : base ≤ h.length) (h1 : (l.length + 1) * bytes ≤ 140737488355328) (h2 : l.length + 1 ≤ 9223372036854775807) :
    ∃ a' h', Am.app base (h ++ [some ⟨cs, t⟩]) t w bytes a l.length (rawAt (h ++ [some ⟨cs, t⟩]) (some ⟨h.length, 0, none⟩) (1 * w)) 1 = some (.slice a' (l.length + 1) (l.length + 1), h') ∧ RowO base t w P (fun b => S b ∨ C b ∨ (h.length ≤ b ∧ b < h'.length)) h' (l ++ [y]) a' ∧ KB (blk a) h h' ∧ h.length + 1 ≤ h'.length := by
  obtain ⟨vs, T, x1, x2, x3, x4, x5⟩ := x
  obtain ⟨a', h', e, o, k, d, n⟩ := app1 (bytes := bytes) x1 x2 hc hw hlf hb h1 h2
  refine ⟨a', h', e, ⟨vs ++ cs, fun b => T b ∨ C b, o, by simp [hc, x2, Nat.add_one_mul], fun b hb' => ?_, fun b hb' => hb'.elim (fun hb' => .inl (x4 b hb')) fun hb' => .inr (.inl hb'), ?_⟩, k, n⟩
  · have e := d b hb'
    have lt := (o.lt hb').2
    subst e
    refine ⟨.inr (.inr ⟨by omega, lt⟩), fun hh => ?_⟩
    rcases hh with hh | hh
    · have := hSb _ (x4 _ hh); omega
    · have := hCb _ hh; omega
  · have c := x5.snoc (vs' := vs ++ cs) (S' := fun b => T b ∨ C b) hy (fun b hb hb' => hC b hb (x4 b hb')) (fun b hb => .inl hb) (fun b hb => .inr hb) (fun q hq => chunk_app_other (by have := mul_le' (w := w) hq; omega)) (chunk_app_self hc x2)
    refine c.keep kp k fun b hb hk => ?_
    rcases hb with hb | hb
    · exact (x3 b hk).2 hb
    · exact hC b hb (x3 b hk).1

/-- What is said, as far as it is kept. -/
def sayL (l : List Sd) (kind pid : Int) (t : Tm) : List Sd := if decide ((l.length : Int) ≥ (500 : Int)) = true then l else l ++ [⟨kind, pid, t⟩]
theorem sayL_len {l : List Sd} {kind pid : Int} {t : Tm} : (sayL l kind pid t).length ≤ l.length + 1 := by
  unfold sayL
  split
  · omega
  · simp
def SayR (base f F : Nat) : Prop := ∀ (h : AH) (S : Fp) (l : List Sd) (v : Option Addr) (kind pid : Int) (p : Nat → Prop) (t : Tm) (k n : Int) (s : ByteArray) (a : Option Addr) (m : Nat), RowO base 127 6 (SdD f) S h l v → l.length ≤ 1048576 → TmR h p f t (termV k n s a m) → TmB f t → (∀ b, S b → b < h.length) → (∀ b, p b → b < h.length) → base ≤ h.length →
  ∃ a' h', run (Et base) F [.slice v l.length l.length, .int .i64 kind, .int .i64 pid, .agg (termV k n s a m).toArray] h = some (.slice a' (sayL l kind pid t).length (sayL l kind pid t).length, h') ∧ RowO base 127 6 (SdD f) (fun b => S b ∨ (h.length ≤ b ∧ b < h'.length)) h' (sayL l kind pid t) a' ∧ KB (blk v) h h' ∧ h.length ≤ h'.length
theorem say_core {base f : Nat} {h h2 : AH} {S : Fp} {l : List Sd} {v : Option Addr} {kind pid : Int} {t : Tm} {k n : Int} {s : ByteArray} {a : Option Addr} {m : Nat} (r : RowO base 127 6 (SdD f) S h l v) (hl : l.length ≤ 1048576) (hS : ∀ b, S b → b < h.length) (k02 : KB NoB h h2) (ht : TmD f (fun b => h.length ≤ b ∧ b < h2.length) h2 t (termV k n s a m)) (hb : base ≤ h.length) :
    ∃ a' h', Am.app base (h2 ++ [some ⟨saidV kind pid k n s a m, 127⟩]) 127 6 72 v l.length (rawAt (h2 ++ [some ⟨saidV kind pid k n s a m, 127⟩]) (some ⟨h2.length, 0, none⟩) (1 * 6)) 1 = some (.slice a' (l.length + 1) (l.length + 1), h') ∧ RowO base 127 6 (SdD f) (fun b => S b ∨ (h.length ≤ b ∧ b < h'.length)) h' (l ++ [⟨kind, pid, t⟩]) a' ∧ KB (blk v) h h' ∧ h.length ≤ h'.length := by
  have n02 := k02.1
  obtain ⟨a', h', e, r', k', n'⟩ := (r.keep (SdD.kp _) k02 fun _ _ h => h).snoc (SdD.kp _) (bytes := 72) (y := ⟨kind, pid, t⟩) (C := fun b => h.length ≤ b ∧ b < h2.length) (cs := saidV kind pid k n s a m) ⟨k, n, s, a, m, rfl, ht⟩ rfl (by decide) rfl (fun b hb hs => by have := hS b hs; omega) (fun b hb => hb.2) (fun b hb => by have := hS b hb; omega) (by omega) (by omega) (by omega)
  refine ⟨a', h', e, r'.mono fun b hb => ?_, KB.trans k02 k' (fun _ _ h => h.elim) (fun _ _ h => h), by omega⟩
  rcases hb with hb | hb | hb
  · exact .inl hb
  · exact .inr (by omega)
  · exact .inr (by omega)
theorem implSay_run {base f : Nat} : SayR base f 47 := by
  intro h S l v kind pid p t k n s a m r hl hm hB hS hp hb
  suffices w : Wp (run (Et base) 47 [.slice v l.length l.length, .int .i64 kind, .int .i64 pid, .agg (termV k n s a m).toArray] h) fun o => ∃ a', o.1 = .slice a' (sayL l kind pid t).length (sayL l kind pid t).length ∧ RowO base 127 6 (SdD f) (fun b => S b ∨ (h.length ≤ b ∧ b < o.2.length)) o.2 (sayL l kind pid t) a' ∧ KB (blk v) h o.2 ∧ h.length ≤ o.2.length by
    obtain ⟨⟨u, h'⟩, e, a', rfl, q⟩ := w
    exact ⟨a', h', e, q⟩
  refine W.of (fun r hx => r47 hx) ?_
  refine W.box hb fun h1 o1 k1 q1 => ?_
  unfold sayL
  refine W.ite (fun c => ?_) fun c => ?_
  · rw [if_pos c]
    exact W.ret ⟨v, rfl, (r.keep (SdD.kp _) k1 fun _ _ h => h).mono fun b hb => .inl hb, KB.mono k1 fun _ _ h => h.elim, by simp only; omega⟩
  · rw [if_neg c]
    obtain ⟨cs2, h2, e2, t2, k2⟩ := copyTerm_run (base := base) f h1 p t _ (TmR.keep k1 (fun _ _ h => h) _ _ _ hm) hB (by omega) (fun b hb => by have := hp b hb; omega)
    obtain ⟨k', n', s', a', m', rfl⟩ := t2.form
    have n2 := k2.1
    obtain ⟨a3, h3, e3, r3, k3, n3⟩ := say_core (kind := kind) (pid := pid) r hl hS (kN k1 k2) (TmD.mo _ _ _ _ _ _ (fun b hb => by constructor <;> omega) t2) hb
    refine W.bI (o1.at0 (i := 0) rfl) (W.bI (o1.at0 (i := 1) rfl) (W.bT (o1.at0 (i := 2) rfl) (W.bS (o1.at0 (i := 3) rfl) (W.bs e2 (W.bs (v := termV k' n' s' a' m') rfl (W.bI rfl (W.bI rfl (W.bT rfl (W.bS rfl (W.bs rfl (W.bs e3 (W.bS rfl (W.ret ⟨a3, ?_, r3, k3, n3⟩)))))))))))))
    simp
theorem specSay_run {base f : Nat} : SayR base f 43 := by
  intro h S l v kind pid p t k n s a m r hl hm hB hS hp hb
  suffices w : Wp (run (Et base) 43 [.slice v l.length l.length, .int .i64 kind, .int .i64 pid, .agg (termV k n s a m).toArray] h) fun o => ∃ a', o.1 = .slice a' (sayL l kind pid t).length (sayL l kind pid t).length ∧ RowO base 127 6 (SdD f) (fun b => S b ∨ (h.length ≤ b ∧ b < o.2.length)) o.2 (sayL l kind pid t) a' ∧ KB (blk v) h o.2 ∧ h.length ≤ o.2.length by
    obtain ⟨⟨u, h'⟩, e, a', rfl, q⟩ := w
    exact ⟨a', h', e, q⟩
  refine W.of (fun r hx => r43 hx) ?_
  refine W.box hb fun h1 o1 k1 q1 => ?_
  unfold sayL
  refine W.ite (fun c => ?_) fun c => ?_
  · rw [if_pos c]
    exact W.ret ⟨v, rfl, (r.keep (SdD.kp _) k1 fun _ _ h => h).mono fun b hb => .inl hb, KB.mono k1 fun _ _ h => h.elim, by simp only; omega⟩
  · rw [if_neg c]
    obtain ⟨cs2, h2, e2, t2, k2⟩ := l1Copy_run (base := base) f h1 p t _ (TmR.keep k1 (fun _ _ h => h) _ _ _ hm) hB (by omega) (fun b hb => by have := hp b hb; omega)
    obtain ⟨k', n', s', a', m', rfl⟩ := t2.form
    have n2 := k2.1
    obtain ⟨a3, h3, e3, r3, k3, n3⟩ := say_core (kind := kind) (pid := pid) r hl hS (kN k1 k2) (TmD.mo _ _ _ _ _ _ (fun b hb => by constructor <;> omega) t2) hb
    refine W.bI (o1.at0 (i := 0) rfl) (W.bI (o1.at0 (i := 1) rfl) (W.bT (o1.at0 (i := 2) rfl) (W.bS (o1.at0 (i := 3) rfl) (W.bs e2 (W.bs (v := termV k' n' s' a' m') rfl (W.bI rfl (W.bI rfl (W.bT rfl (W.bS rfl (W.bs rfl (W.bs e3 (W.bS rfl (W.ret ⟨a3, ?_, r3, k3, n3⟩)))))))))))))
    simp

/-! a new system -/
def newP (F : Nat) (l : List In) (t : Tm) : Pl := ⟨l, [newA F 1 0 t], 2, sayL [] 1 1 t⟩
def zeroP : Pl := ⟨[], [], 0, []⟩
def resP (F : Nat) (l : List In) (t : Tm) : Pl := if plOk F (newP F l t) = true then newP F l t else zeroP
theorem no_blk {b : Nat} : ¬ blk none b := fun ⟨_, e, _⟩ => by cases e
theorem zeroP_G {base f : Nat} {S : Fp} {h : AH} : PlG base f S h zeroP (plV none 0 none 0 0 none 0) :=
  ⟨none, none, none, fun _ => False, fun _ => False, fun _ => False, rfl, .inl ⟨rfl, rfl⟩, fun x hx => (no_blk hx).elim, RowO.nil, RowO.nil, fun _ h => h.elim, fun _ h => h.elim, fun _ h => h.elim, fun _ h => h.elim, fun _ h => h.elim, fun _ h => h.elim⟩
theorem newP_M {F : Nat} {l : List In} {t : Tm} (hl : l.length ≤ 1048576) (hL : ∀ x ∈ l, x.s.size ≤ 1048576) : PlM (newP F l t) := by
  have hA : (newA F 1 0 t).Le := newA_le
  obtain ⟨h1, h2, h3⟩ := hA
  simp only [maxLen] at h1 h2
  refine ⟨by show l.length ≤ _; omega, fun x hx => by have := hL x hx; omega, by simp [newP], fun A hA => ?_, ?_⟩
  · simp only [newP, List.mem_singleton] at hA
    subst hA
    exact ⟨by omega, by omega, by omega⟩
  · have := sayL_len (l := []) (kind := 1) (pid := 1) (t := t)
    simp only [newP, List.length_nil] at this ⊢
    omega
def NewPR (base f F : Nat) : Prop := ∀ (h : AH) (l : List In) (c : Option Addr) (p : Nat → Prop) (t : Tm) (cs : List Value), Sl h c (insR l) → l.length ≤ 1048576 → (∀ x ∈ l, x.s.size ≤ 1048576) → TmR h p (f + 1) t cs → TmB (f + 1) t → (∀ b, p b → b < h.length) → base ≤ h.length →
  ∃ cs' h', run (Et base) F [.slice c l.length l.length, .agg cs.toArray] h = some (.tuple #[.agg cs'.toArray, .bool (plOk (f + 1) (newP (f + 1) l t))], h') ∧ PlG base (f + 1) (iS h.length h'.length) h' (resP (f + 1) l t) cs' ∧ KB NoB h h'
theorem insR_leaf : ∀ l : List In, (insR l).all leaf = true
  | [] => rfl
  | x :: r => by
    rw [insR, List.all_append, insR_leaf r]
    rfl
theorem W.qP {base t n : Nat} {h : AH} {a b g : Option Addr} {x y z : Nat} {v : Int} (o : Own base t h (at0 n) (plV a x b y v g z)) {β : Type} {Q : β → Prop} {f : Option Addr × Nat → Option Addr × Nat → Int → Option Addr × Nat → Option β} (w : Wp (f (a, x) (b, y) v (g, z)) Q) :
    Wp (((Am.cell h n 0).bind getS).bind fun l1 => ((Am.cell h n 1).bind getS).bind fun l2 => ((Am.cell h n 2).bind (getI .i64)).bind fun n3 => ((Am.cell h n 3).bind getS).bind fun l4 => f l1 l2 n3 l4) Q :=
  W.bS (o.at0 (i := 0) rfl) (W.bS (o.at0 (i := 1) rfl) (W.bI (o.at0 (i := 2) rfl) (W.bS (o.at0 (i := 3) rfl) w)))
/-- The one actor's row. -/
theorem oneA {base f : Nat} {h h1 : AH} {S : Fp} {A : Ac} {cs : List Value} (x : AcG base f S h A cs) (hS : ∀ b, S b → b < h.length) (hc : cs.length = 5) (o : Own base 52 h1 (at0 h.length) cs) (k : KB NoB h h1) : RowO base 52 5 (AcG base f) (fun b => S b ∨ b = h.length) h1 [A] (at0 h.length) := by
  refine ⟨cs, S, o, by simp [hc], fun b hb => ?_, fun b hb => .inl hb, fun q b => q = 0 ∧ S b, fun q b hb => hb.2, fun q j b hq hb hb' => hq (hb.1.trans hb'.1.symm), fun q y hy => ?_⟩
  · rw [blk_at0] at hb
    subst hb
    exact ⟨.inr rfl, fun hb => by have := hS _ hb; omega⟩
  · cases q with
    | zero =>
      simp at hy
      subst hy
      have ee : (fun b => (0 : Nat) = 0 ∧ S b) = S := by funext b; simp
      show AcG base f (fun b => (0 : Nat) = 0 ∧ S b) h1 A (chunk 5 0 cs)
      rw [ee, show chunk 5 0 cs = cs from by simp only [chunk, Nat.zero_mul, List.drop_zero]; exact List.take_of_length_le (by omega)]
      exact AcG.kp _ _ _ _ _ _ _ _ k (fun _ _ h => h) x
    | succ q => simp at hy

theorem implPlainNew_run {base f : Nat} : NewPR base f 12 := by
  intro h l c p t cs hc hl hL hm hB hp hb
  obtain ⟨k, n, s, a, m, rfl⟩ := hm.form
  suffices w : Wp (run (Et base) 12 [.slice c l.length l.length, .agg (termV k n s a m).toArray] h) fun o => ∃ cs', o.1 = .tuple #[.agg cs'.toArray, .bool (plOk (f + 1) (newP (f + 1) l t))] ∧ PlG base (f + 1) (iS h.length o.2.length) o.2 (resP (f + 1) l t) cs' ∧ KB NoB h o.2 by
    obtain ⟨⟨u, h'⟩, e, cs', rfl, q⟩ := w
    exact ⟨cs', h', e, q⟩
  refine W.of (fun r hx => r12 hx) ?_
  refine W.box hb fun h1 o1 k1 q1 => W.box (base := base) (by omega) fun h2 oZ k2 q2 => ?_
  have k02 := kN k1 k2
  have o1 := o1.keepN k2
  have hraw : rawAt h2 c (l.length * 6) = some (insR l) := by
    have := (hc.keepN k02).raw (insR_leaf l)
    rw [insR_len] at this
    exact this
  obtain ⟨a3, h3, e3, oC, k3, d3⟩ := Own.app (x := (.inl ⟨rfl, rfl⟩ : Own base 82 h2 none [])) (n := 0) (m := l.length) (sz := 6) (bytes := 56) rfl (by decide) hraw (by omega) (by omega) (by omega) (insR_len l)
  have k3 : KB NoB h2 h3 := k3.mono fun i hi hb => no_blk hb
  have n3 := k3.1
  simp only [Nat.zero_add, List.nil_append] at e3 oC
  have b3 : ∀ b, blk a3 b → b = h2.length := fun b hb => by
    rcases d3 with ⟨_, e, _⟩ | d3
    · rw [e] at hb; exact (no_blk hb).elim
    · exact d3 b hb
  have k03 := kN k02 k3
  refine W.bs e3 (W.bS rfl (W.gt (same_keep k3 (o1.at0 (i := 0) rfl)) (W.q4 (o1.keepN k3) ?_)))
  obtain ⟨cs4, h4, e4, A4, k4⟩ := implNew_run (base := base) (f := f) h3 p t _ 1 0 (TmR.keep k03 (fun _ _ h => h) _ _ _ hm) hB (by omega) (fun b hb => by have := hp b hb; omega)
  have n4 := k4.1
  obtain ⟨p4, c4, a4, x4, b4, y4, g4, z4, rfl⟩ := A4.form
  have k04 := kN k03 k4
  have o1 := (o1.keepN k3).keepN k4
  refine W.bs e4 (W.bs (v := acV p4 c4 a4 x4 b4 y4 g4 z4) rfl (W.bI rfl (W.bI rfl (W.bS rfl (W.bS rfl (W.bS rfl (W.gt (same_KB k4 (show h.length < h3.length by omega) (fun h => h)) (W.gt (same_KB (kN k3 k4) (show h.length < h2.length by omega) (fun h => h)) (W.q4 o1 ?_)))))))))
  obtain ⟨a5, h5, e5, r5, k5, n5⟩ := implSay_run (base := base) (f := f + 1) h4 (fun _ => False) [] none 1 1 p t k n s a m RowO.nil (by simp) (TmR.keep k04 (fun _ _ h => h) _ _ _ hm) hB (fun _ h => h.elim) (fun b hb => by have := hp b hb; omega) (by omega)
  have k5 : KB NoB h4 h5 := k5.mono fun i hi hb => no_blk hb
  have k05 := kN k04 k5
  refine W.bs e5 (W.bS rfl (W.gt (ne_A (show h.length ≠ h5.length by omega)) (W.box (base := base) (h := h5) (by omega) fun h6 o6 k6 q6 => ?_)))
  refine W.gt (ne_A (by omega)) (W.gt (ne_A (by omega)) (W.nw (base := base) (by omega) rfl fun h7 o7 k7 q7 => W.qP o7 ?_))
  have oC6 := ((oC.keepN k4).keepN k5).keepN k6
  have A5 := AcG.kp _ _ _ _ _ _ _ _ k5 (fun _ _ h => h) A4
  have r6 := oneA A5 (fun b hb => by omega) rfl o6 k6
  have k07 := kN (kN k05 k6) k7
  have sl : (sayL [] 1 1 t).length = (newP (f + 1) l t).out.length := rfl
  have G7 : PlG base (f + 1) (fun b => h1.length < b ∧ b < h6.length) h7 (newP (f + 1) l t) (plV a3 l.length (at0 h5.length) 1 2 a5 (sayL [] 1 1 t).length) := by
    have hb3 : ∀ b, blk a3 b → b = h2.length ∧ b < h3.length := fun b hb => ⟨b3 b hb, (oC.lt hb).2⟩
    refine ⟨a3, at0 h5.length, a5, fun b => blk a3 b, fun b => iS h3.length h4.length b ∨ b = h5.length, iS h4.length h5.length, rfl, oC6.keepN k7, fun b hb => hb, r6.keep (AcG.kp _ _) k7 fun _ _ h => h, ((r5.keep (SdD.kp _) k6 fun _ _ h => h).keep (SdD.kp _) k7 fun _ _ h => h).mono fun b hb => hb.elim (fun h => h.elim) id, fun b hb => ?_, fun b hb => ?_, fun b hb => ?_, fun b hb hs => ?_, fun b hb hs => ?_, fun b hb hs => ?_⟩
    · have := hb3 b hb; omega
    · rcases hb with hb | hb <;> omega
    · omega
    · have := hb3 b hb; rcases hs with hs | hs <;> omega
    · have := hb3 b hb; omega
    · rcases hb with hb | hb <;> omega
  obtain ⟨h8, e8, k8⟩ := implPlainOk_run (base := base) (newP_M hl hL) G7.plR (by omega)
  have n8 := k8.1
  have k08 := kN k07 k8
  have oZ8 := (((((oZ.keepN k3).keepN k4).keepN k5).keepN k6).keepN k7).keepN k8
  refine W.bs e8 (W.bB rfl ?_)
  unfold resP
  refine W.ite (fun d => ?_) fun d => ?_
  · have d' : plOk (f + 1) (newP (f + 1) l t) = false := by simpa using d
    rw [d']
    refine W.wr0 oZ8 (by simp) (by simp) fun h9 o9 k9 l9 => W.qP o9 (W.ret ⟨_, rfl, zeroP_G, kFresh k08 k9 fun i hi => by omega⟩)
  · have d' : plOk (f + 1) (newP (f + 1) l t) = true := by simpa using d
    rw [d']
    refine W.qP (o7.keepN k8) (W.wr0 oZ8 (by simp) (by simp) fun h9 o9 k9 l9 => W.qP o9 (W.ret ⟨_, rfl, ?_, kFresh k08 k9 fun i hi => by omega⟩))
    have l9 : h9.length = h8.length := l9
    rw [if_pos rfl]
    have g := PlG.kp _ _ _ _ _ _ _ _ k9 (fun b hb hk => by omega) (PlG.kp _ _ _ _ _ _ _ _ k8 (fun _ _ h => h) G7)
    obtain ⟨a, b, g', S1, S2, S3, e, h1', h2', h3', h4', s1, s2, s3, dd⟩ := g
    exact ⟨a, b, g', S1, S2, S3, e, h1', h2', h3', h4', fun x hx => by have := s1 x hx; exact ⟨by omega, by show x < h9.length; omega⟩, fun x hx => by have := s2 x hx; exact ⟨by omega, by show x < h9.length; omega⟩, fun x hx => by have := s3 x hx; exact ⟨by omega, by show x < h9.length; omega⟩, dd⟩
theorem specPlainNew_run {base f : Nat} : NewPR base f 9 := by
  intro h l c p t cs hc hl hL hm hB hp hb
  obtain ⟨k, n, s, a, m, rfl⟩ := hm.form
  suffices w : Wp (run (Et base) 9 [.slice c l.length l.length, .agg (termV k n s a m).toArray] h) fun o => ∃ cs', o.1 = .tuple #[.agg cs'.toArray, .bool (plOk (f + 1) (newP (f + 1) l t))] ∧ PlG base (f + 1) (iS h.length o.2.length) o.2 (resP (f + 1) l t) cs' ∧ KB NoB h o.2 by
    obtain ⟨⟨u, h'⟩, e, cs', rfl, q⟩ := w
    exact ⟨cs', h', e, q⟩
  refine W.of (fun r hx => r9 hx) ?_
  refine W.box hb fun h1 o1 k1 q1 => W.box (base := base) (by omega) fun h2 oZ k2 q2 => W.box (base := base) (by omega) fun h2b oE kE qE => ?_
  have k02 := kN (kN k1 k2) kE
  have o1 := (o1.keepN k2).keepN kE
  have oZ := oZ.keepN kE
  have hraw : rawAt h2b c (l.length * 6) = some (insR l) := by
    have := (hc.keepN k02).raw (insR_leaf l)
    rw [insR_len] at this
    exact this
  obtain ⟨a3, h3, e3, oC, k3, d3⟩ := Own.app (x := oE) (n := 0) (m := l.length) (sz := 6) (bytes := 56) rfl (by decide) hraw (by omega) (by omega) (by omega) (insR_len l)
  have kE3 : KB NoB h2 h3 := kFresh kE k3 fun i hi => by rw [blk_at0] at hi; omega
  have n3 := kE3.1
  simp only [Nat.zero_add, List.nil_append] at e3 oC
  have b3 : ∀ b, blk a3 b → h2.length ≤ b := fun b hb => by
    rcases d3 with ⟨_, e, _⟩ | d3
    · rw [e, blk_at0] at hb; omega
    · have := d3 b hb; omega
  have k03 := kN (kN k1 k2) kE3
  have o1 := o1.keep k3 fun i hi hk => by rw [blk_at0] at hi hk; omega
  have oZ := oZ.keep k3 fun i hi hk => by rw [blk_at0] at hi hk; omega
  refine W.bs e3 (W.bS rfl (W.gt (ne_A (by omega)) (W.gt (same_KB k3 (by omega) (fun hh => by rw [blk_at0] at hh; omega)) (W.q4 o1 ?_))))
  obtain ⟨cs4, h4, e4, A4, k4⟩ := specNew_run (base := base) (f := f) h3 p t _ 1 0 (TmR.keep k03 (fun _ _ h => h) _ _ _ hm) hB (by omega) (fun b hb => by have := hp b hb; omega)
  have n4 := k4.1
  obtain ⟨p4, c4, a4, x4, b4, y4, g4, z4, rfl⟩ := A4.form
  have k04 := kN k03 k4
  have o1 := o1.keepN k4
  refine W.bs e4 (W.bs (v := acV p4 c4 a4 x4 b4 y4 g4 z4) rfl (W.bI rfl (W.bI rfl (W.bS rfl (W.bS rfl (W.bS rfl (W.box (base := base) (h := h4) (by omega) fun h5 o5 k5 q5' => ?_)))))))
  have k05 := kN k04 k5
  refine W.gt (ne_A (by omega)) (W.nw (base := base) (by omega) rfl fun h6 o6 k6 q6 => ?_)
  have o1 := (o1.keepN k5).keepN k6
  have k06 := kN k05 k6
  obtain ⟨a7, h7, e7, r7, k7, n7⟩ := specSay_run (base := base) (f := f + 1) h6 (fun _ => False) [] none 1 1 p t k n s a m RowO.nil (by simp) (TmR.keep k06 (fun _ _ h => h) _ _ _ hm) hB (fun _ h => h.elim) (fun b hb => by have := hp b hb; omega) (by omega)
  have k7 : KB NoB h6 h7 := k7.mono fun i hi hb => no_blk hb
  refine W.bS (o6.at0 (i := 3) rfl) (W.q4 o1 (W.bs e7 (W.bS rfl (W.wr0 (o6.keepN k7) (by simp) (by simp) fun h8 o8 k8 l8 => W.qP o8 ?_))))
  have l8 : h8.length = h7.length := l8
  have k8 : KB (· = h5.length) h7 h8 := k8
  have k48 : KB NoB h4 h8 := kFresh (kN (kN k5 k6) k7) k8 fun i hi => by omega
  have k58 : KB NoB h5 h8 := kFresh (kN k6 k7) k8 fun i hi => by omega
  have A5 := AcG.kp _ _ _ _ _ _ _ _ k5 (fun _ _ h => h) A4
  have r6 := (oneA A4 (fun b hb => by omega) rfl o5 k5).keep (AcG.kp _ _) k58 fun _ _ h => h
  have k08 := kN k04 k48
  have G7 : PlG base (f + 1) (fun b => h1.length < b ∧ b < h8.length) h8 (newP (f + 1) l t) (plV a3 l.length (at0 h4.length) 1 2 a7 (sayL [] 1 1 t).length) := by
    have hb3 : ∀ b, blk a3 b → h2.length ≤ b ∧ b < h3.length := fun b hb => ⟨b3 b hb, (oC.lt hb).2⟩
    refine ⟨a3, at0 h4.length, a7, fun b => blk a3 b, fun b => iS h3.length h4.length b ∨ b = h4.length, iS h6.length h7.length, rfl, (oC.keepN k4).keepN k48, fun b hb => hb, r6, (r7.keep (SdD.kp _) k8 fun b hb hk => hb.elim (fun h => h) fun hb => by omega).mono fun b hb => hb.elim (fun h => h.elim) id, fun b hb => ?_, fun b hb => ?_, fun b hb => ?_, fun b hb hs => ?_, fun b hb hs => ?_, fun b hb hs => ?_⟩
    · have := hb3 b hb; omega
    · rcases hb with hb | hb <;> omega
    · omega
    · have := hb3 b hb; rcases hs with hs | hs <;> omega
    · have := hb3 b hb; omega
    · rcases hb with hb | hb <;> omega
  obtain ⟨h9, e9, k9⟩ := specPlainOk_run (base := base) (newP_M hl hL) G7.plR (by omega)
  have n9 := k9.1
  have k09 := kN k08 k9
  have oZ9 := ((oZ.keepN k4).keepN k48).keepN k9
  refine W.bs e9 (W.bB rfl ?_)
  unfold resP
  refine W.ite (fun d => ?_) fun d => ?_
  · have d' : plOk (f + 1) (newP (f + 1) l t) = false := by simpa using d
    rw [d']
    refine W.wr0 oZ9 (by simp) (by simp) fun ha oa ka la => W.qP oa (W.ret ⟨_, rfl, zeroP_G, kFresh k09 ka fun i hi => by omega⟩)
  · have d' : plOk (f + 1) (newP (f + 1) l t) = true := by simpa using d
    rw [d']
    refine W.qP (o8.keepN k9) (W.wr0 oZ9 (by simp) (by simp) fun ha oa ka la => W.qP oa (W.ret ⟨_, rfl, ?_, kFresh k09 ka fun i hi => by omega⟩))
    have la : ha.length = h9.length := la
    rw [if_pos rfl]
    have g := PlG.kp _ _ _ _ _ _ _ _ ka (fun b hb hk => by omega) (PlG.kp _ _ _ _ _ _ _ _ k9 (fun _ _ h => h) G7)
    obtain ⟨a, b, g', S1, S2, S3, e, h1', h2', h3', h4', s1, s2, s3, dd⟩ := g
    exact ⟨a, b, g', S1, S2, S3, e, h1', h2', h3', h4', fun x hx => by have := s1 x hx; exact ⟨by omega, by show x < ha.length; omega⟩, fun x hx => by have := s2 x hx; exact ⟨by omega, by show x < ha.length; omega⟩, fun x hx => by have := s3 x hx; exact ⟨by omega, by show x < ha.length; omega⟩, dd⟩
end Go.Proofs.Ytolcnednfbbnnaa.Am


set_option linter.unusedSimpArgs false
set_option linter.unusedVariables false
namespace Go.Proofs.Ytolcnednfbbnnaa.Am
open Go Go.RowKit

theorem resP_ok {f : Nat} {l : List In} {t : Tm} (hl : l.length ≤ 1048576) (hL : ∀ x ∈ l, x.s.size ≤ 1048576) (ht : tcnt (f + 1) t ≤ 1048576) :
    PlM (resP (f + 1) l t) ∧ ((resP (f + 1) l t).code.length ≤ 1048576 ∧ (resP (f + 1) l t).acs.length ≤ 1048576 ∧ (resP (f + 1) l t).out.length ≤ 1048576 ∧ ∀ A ∈ (resP (f + 1) l t).acs, A.Le) ∧ 0 ≤ mcP (f + 1) (resP (f + 1) l t) ∧ mcP (f + 1) (resP (f + 1) l t) ≤ 30000000 := by
  have hmc := newA_mc (f := f) (pid := 1) (pc := 0) ht
  unfold resP
  split
  · have hM := newP_M (F := f + 1) (t := t) hl hL
    have sl := sayL_len (l := []) (kind := 1) (pid := 1) (t := t)
    have hout : (newP (f + 1) l t).out = [⟨1, 1, t⟩] := by unfold newP sayL; simp
    refine ⟨hM, ⟨hl, by simp [newP], by rw [hout]; simp, fun A hA => ?_⟩, ?_, ?_⟩
    · simp only [newP, List.mem_singleton] at hA
      subst hA
      exact newA_le
    · have e : mcP (f + 1) (newP (f + 1) l t) = 6 * (l.length : Int) + mcAs (f + 1) [newA (f + 1) 1 0 t] + mcT (f + 1) (newP (f + 1) l t).out := rfl
      rw [e, hout, mcAs, mcAs]
      simp only [mcT, sumL, List.length_cons, List.length_nil]
      omega
    · have e : mcP (f + 1) (newP (f + 1) l t) = 6 * (l.length : Int) + mcAs (f + 1) [newA (f + 1) 1 0 t] + mcT (f + 1) (newP (f + 1) l t).out := rfl
      rw [e, hout, mcAs, mcAs]
      simp only [mcT, sumL, List.length_cons, List.length_nil]
      omega
  · have e : mcP (f + 1) zeroP = 0 := rfl
    rw [e]
    exact ⟨⟨by decide, fun x hx => (nomatch hx), by decide, fun A hA => (nomatch hA), by decide⟩, ⟨by decide, by decide, by decide, fun A hA => (nomatch hA)⟩, by omega, by omega⟩

theorem plainNew_law {base f : Nat} {h : AH} {p : Nat → Prop} {l : List In} {c : Option Addr} {t : Tm} {cs : List Value} (hL : ∀ x ∈ l, x.s.size ≤ 9223372036854775807) (hl : l.length ≤ 9223372036854775807) (hc : Sl h c (insR l)) (hm : TmR h p (f + 1) t cs) (hb : base ≤ h.length) (hp : ∀ b, p b → b < h.length) :
    Wp (run (Et base) 3 [.slice c l.length l.length, .agg cs.toArray] h) fun r => r.1 = .bool true := by
  obtain ⟨k, n, s, a, m, rfl⟩ := hm.form
  have lt : ∀ {x : AH}, h.length ≤ x.length → ∀ b, p b → b < x.length := fun hx b hbp => by have := hp b hbp; omega
  refine W.of (fun r hx => r3 hx) ?_
  refine W.box hb fun h1 o1 k01 q1 => ?_
  obtain ⟨z, h2, e2, k12, hz⟩ := szInsS_run (base := base) (h := h1) hL hl (hc.keepN k01) (by omega)
  have n2 := k12.1
  refine W.bs e2 (W.bI rfl (W.ite (fun d => W.ret rfl) fun d => ?_))
  have dz : ¬ z < 0 := by simpa using d
  obtain ⟨hl', hL', hz'⟩ := hz dz
  have k02 := kN k01 k12
  obtain ⟨z2, h3, e3, k23, y1, y2, hz2⟩ := szTerm_run (base := base) (f + 1) h2 p t _ z (TmR.keep k02 (fun _ _ h => h) _ _ _ hm) (by omega) (lt (by omega)) (by omega) hz'
  have n3 := k23.1
  refine W.q4 (o1.keepN k12) (W.bs e3 (W.bI rfl (W.ite (fun d2 => W.ret rfl) fun d2 => ?_)))
  obtain ⟨hB, hcnt⟩ := hz2 (by simpa using d2)
  have hcnt' : tcnt (f + 1) t ≤ 1048576 := by
    have : ¬ z2 < 0 := by simpa using d2
    omega
  obtain ⟨rM, rB, mc0, mc1⟩ := resP_ok (f := f) (t := t) hl' hL' hcnt'
  generalize hR : resP (f + 1) l t = R at rM rB mc0 mc1
  have k03 := kN k02 k23
  have k13 := kN k12 k23
  obtain ⟨h4, e4, o4, k34, n4⟩ := toInsS_run (base := base) (h := h3) hl' (hc.keepN k03) (by omega)
  have k04 := kN k03 k34
  have k14 := kN k13 k34
  refine W.bs e4 (W.bS rfl (W.gt (same_KB k34 (show h.length < h3.length by omega) (fun h => h)) (W.q4 (o1.keepN k14) ?_)))
  obtain ⟨cs5, h5, e5, t5, k45⟩ := toTermD_run (base := base) (f + 1) h4 p t _ (TmR.keep k04 (fun _ _ h => h) _ _ _ hm) hB (by omega) (lt (by omega))
  obtain ⟨x1, x2, x3, x4, x5, rfl⟩ := t5.form
  have n5 := k45.1
  have k05 := kN k04 k45
  have k15 := kN k14 k45
  obtain ⟨csW, h6, e6, GW, k56⟩ := specPlainNew_run (base := base) (f := f) h5 l _ _ t _ (o4.keepN k45).sl hl' hL' (TmD.tmR _ _ _ _ _ t5) hB (fun b hb => hb.2) (by omega)
  obtain ⟨wa, wn, wb, wm, wv, wg, wq, rfl⟩ := GW.form
  rw [hR] at GW
  have n6 := k56.1
  have k16 := kN k15 k56
  refine W.bs e5 (W.bs (v := termV x1 x2 x3 x4 x5) rfl (W.bI rfl (W.bI rfl (W.bT rfl (W.bS rfl (W.bs e6 (W.bs (v := [Value.agg (plV wa wn wb wm wv wg wq).toArray, Value.bool (plOk (f + 1) (newP (f + 1) l t))]) rfl (W.bs (v := plV wa wn wb wm wv wg wq) rfl (W.bS rfl (W.bS rfl (W.bI rfl (W.bS rfl (W.bB rfl (W.gt (ne_A (show h.length ≠ h6.length by omega)) (W.nw (base := base) (h := h6) (by omega) rfl fun h7 oW k67 q7 => ?_)))))))))))))))
  have k17 := kN k16 k67
  have k07 := kN k01 k17
  have W7 := (PlG.kp _ _ _ _ _ _ _ _ k67 (fun _ _ h => h) GW).plR
  obtain ⟨h8, e8, o8, k78, n8⟩ := toInsS_run (base := base) (h := h7) hl' (hc.keepN k07) (by omega)
  have k18 := kN k17 k78
  have k08 := kN k01 k18
  obtain ⟨csX, h9, e9, X9, k89⟩ := toTermD_run (base := base) (f + 1) h8 p t _ (TmR.keep k08 (fun _ _ h => h) _ _ _ hm) hB (by omega) (lt k08.1)
  obtain ⟨u1, u2, u3, u4, u5, rfl⟩ := X9.form
  have n9 := k89.1
  have k19 := kN k18 k89
  refine W.bs e8 (W.bS rfl (W.q4 (o1.keepN k18) (W.bs e9 (W.bs (v := termV u1 u2 u3 u4 u5) rfl (W.bI rfl (W.bI rfl (W.bT rfl (W.bS rfl (W.nw (base := base) (h := h9) (by omega) rfl fun h10 oX k910 q10 => W.q4 oX ?_)))))))))
  have k710 := kN (kN k78 k89) k910
  have X10 := TmD.kp _ _ _ _ _ _ _ k910 (fun _ _ h => h) X9
  obtain ⟨csG, h11, e11, G11, k1011⟩ := implPlainNew_run (base := base) (f := f) h10 l _ _ t _ ((o8.keepN k89).keepN k910).sl hl' hL' (TmD.tmR _ _ _ _ _ X10) hB (fun b hb => by omega) (by omega)
  obtain ⟨ga, gn, gb, gm, gv, gg, gq, rfl⟩ := G11.form
  rw [hR] at G11
  have n11 := k1011.1
  refine W.bs e11 (W.bs (v := [Value.agg (plV ga gn gb gm gv gg gq).toArray, Value.bool (plOk (f + 1) (newP (f + 1) l t))]) rfl (W.bs (v := plV ga gn gb gm gv gg gq) rfl (W.bS rfl (W.bS rfl (W.bI rfl (W.bS rfl (W.bB rfl (W.nw (base := base) (h := h11) (by omega) rfl fun h12 oG k1112 q12 => ?_))))))))
  have k712 := kN (kN k710 k1011) k1112
  have k1012 := kN k1011 k1112
  have G12 := PlD.kp _ _ _ _ _ _ _ _ k1112 (fun _ _ h => h) G11.plD
  obtain ⟨h13, e13, k1213⟩ := eqPlain_run (base := base) rM rB.2.2.2 G12.plR (W7.keepN k712) (by omega)
  have n13 := k1213.1
  have oW12 := oW.keepN k712
  refine W.joinP (fun q => q = ([some (.slice c l.length l.length), some (.pointer (at0 h.length)), some (.pointer (at0 h6.length)), some (.bool (plOk (f + 1) (newP (f + 1) l t))), some (.slice (at0 h7.length) l.length l.length), some (.pointer (at0 h9.length)), some (.pointer (at0 h11.length)), some (.bool (plOk (f + 1) (newP (f + 1) l t))), some (.bool false)], h13)) ?_ fun q hq => ?_
  · refine W.qP oG (W.qP oW12 (W.bs e13 (W.bB rfl (W.ifF (by decide) (W.inl ?_)))))
    simp
  subst hq
  refine W.bS rfl (W.bA rfl (W.bA rfl (W.bB rfl (W.bS rfl (W.bA rfl (W.bA rfl (W.bB rfl (W.bB rfl (W.ifF (by decide) ?_)))))))))
  have k713 := kN k712 k1213
  have k013 := kN k07 k713
  have k113 := kN k17 k713
  have k1013 := kN k1012 k1213
  obtain ⟨h14, e14, o14, k1314, n14⟩ := toInsS_run (base := base) (h := h13) hl' (hc.keepN k013) (by omega)
  have o8_13 : Own base 82 h13 (at0 h7.length) (insR l) := ((o8.keepN k89).keepN k910).keepN k1013
  obtain ⟨h15, e15, k1415⟩ := eqInsS_run (base := base) (h := h14) hl (o8_13.keepN k1314).sl o14.sl (by omega)
  have n15 := k1415.1
  have k1315 := kN k1314 k1415
  have k015 := kN k013 k1315
  have k115 := kN k113 k1315
  have k1015 := kN k1013 k1315
  refine W.bs e14 (W.bS rfl (W.bs e15 (W.bB rfl (W.ifF (by decide) (W.q4 (oX.keepN k1015) (W.q4 (o1.keepN k115) ?_))))))
  obtain ⟨csY, h16, e16, Y16, k1516⟩ := toTermD_run (base := base) (f + 1) h15 p t _ (TmR.keep k015 (fun _ _ h => h) _ _ _ hm) hB (by omega) (lt k015.1)
  obtain ⟨y1', y2', y3', y4', y5', rfl⟩ := Y16.form
  have n16 := k1516.1
  have X16 := TmD.kp _ _ _ _ _ _ _ (kN k1015 k1516) (fun _ _ h => h) X10
  obtain ⟨h17, e17, k1617⟩ := eqTerm_run (base := base) (f + 1) (f + 1) h16 _ _ t _ _ (TmD.tmR _ _ _ _ _ X16) (TmD.tmR _ _ _ _ _ Y16) (by omega)
  have n17 := k1617.1
  refine W.bs e16 (W.bs (v := termV y1' y2' y3' y4' y5') rfl (W.bI rfl (W.bI rfl (W.bT rfl (W.bS rfl (W.gt (same_KB k1516 (show h9.length < h15.length by omega) (fun h => h)) (W.bs e17 (W.bB rfl (W.ifF (by decide) ?_)))))))))
  have k1317 := kN (kN k1315 k1516) k1617
  have k1017 := kN k1013 k1317
  obtain ⟨ys, h18, e18, o18, len18, m18, k1718⟩ := markInsS_run (base := base) (k := 1) hl' (o8_13.keepN k1317) (by omega) (by omega)
  have n18 := k1718.1
  have k1718 : KB (· = h7.length) h17 h18 := k1718.mono fun i _ hi => blk_at0.1 hi
  have oX18 := (oX.keepN k1017).keepB k1718 fun i hi => by rw [blk_at0] at hi; omega
  have X18 := TmD.kp _ _ _ _ _ _ _ k1718 (fun b hb hk => by omega) (TmD.kp _ _ _ _ _ _ _ k1017 (fun _ _ h => h) X10)
  obtain ⟨z19, h19, e19, z19', k1819⟩ := markTerm_run (base := base) (k := 1 + 6 * (l.length : Int)) X18 (fun b hb => by omega) (by omega) (by omega) (by omega)
  have n19 := k1819.1
  refine W.bs e18 (W.bI rfl (W.q4 oX18 (W.bs e19 (W.bI rfl ?_))))
  have k1719 : KB (fun b => h7.length ≤ b ∧ b < h9.length) h17 h19 := KB.trans k1718 k1819 (fun b _ hb => by omega) (fun b _ hb => by omega)
  have k1219 : KB (fun b => h7.length ≤ b ∧ b < h9.length) h12 h19 := KB.trans (kN k1213 k1317) k1719 (fun _ _ h => h.elim) (fun _ _ h => h)
  have k719 : KB NoB h7 h19 := kFresh k712 k1219 fun i hi => hi.1
  have G19 := PlD.kp _ _ _ _ _ _ _ _ k1219 (fun b hb hk => by omega) G12
  have oG19 := oG.keep k1219 fun b hb hk => by rw [blk_at0] at hb; omega
  obtain ⟨h20, e20, k1920⟩ := eqPlain_run (base := base) rM rB.2.2.2 G19.plR (W7.keepN k719) (by omega)
  have n20 := k1920.1
  refine W.joinP (fun q => q = ([some (.slice c l.length l.length), some (.pointer (at0 h.length)), some (.pointer (at0 h6.length)), some (.bool (plOk (f + 1) (newP (f + 1) l t))), some (.pointer (at0 h11.length)), some (.bool false)], h20)) ?_ fun q hq => ?_
  · refine W.ifF (by simp; omega) (W.qP oG19 (W.qP (oW.keepN k719) (W.bs e20 (W.bB rfl (W.ifF (by decide) (W.inl ?_))))))
    simp
  subst hq
  refine W.bS rfl (W.bA rfl (W.bA rfl (W.bB rfl (W.bA rfl (W.bB rfl (W.ifF (by decide) ?_))))))
  have G20 := PlD.kp _ _ _ _ _ _ _ _ k1920 (fun _ _ h => h) G19
  obtain ⟨R', h21, e21, G21, mk21, B21, k2021⟩ := markPlain_run (base := base) (k := 1) rB G20 (fun b hb => by omega) (by omega) (by omega) (by omega)
  have n21 := k2021.1
  have oG21 := (oG19.keepN k1920).keep k2021 fun b hb hk => by rw [blk_at0] at hb; omega
  obtain ⟨h22, e22, k2122⟩ := heldPlain_run (base := base) B21 mk21 (by omega) (by omega) G21.plR (by omega)
  have n22 := k2122.1
  refine W.qP (oG19.keepN k1920) (W.bs e21 (W.bI rfl (W.qP oG21 (W.bs e22 (W.bI rfl (W.ifF (by simp; omega) (W.ifF (by simp) ?_)))))))
  have k722 : KB NoB h7 h22 := kN (kFresh (kN k719 k1920) k2021 fun i hi => by omega) k2122
  have k022 := kN k07 k722
  have k122 := kN k17 k722
  obtain ⟨h23, e23, o23, k2223, n23⟩ := toInsS_run (base := base) (h := h22) hl' (hc.keepN k022) (by omega)
  have k023 := kN k022 k2223
  have k123 := kN k122 k2223
  obtain ⟨csV, h24, e24, V24, k2324⟩ := toTermD_run (base := base) (f + 1) h23 p t _ (TmR.keep k023 (fun _ _ h => h) _ _ _ hm) hB (by omega) (lt k023.1)
  obtain ⟨v1, v2, v3, v4, v5, rfl⟩ := V24.form
  have n24 := k2324.1
  obtain ⟨csU, h25, e25, U25, k2425⟩ := implPlainNew_run (base := base) (f := f) h24 l _ _ t _ (o23.keepN k2324).sl hl' hL' (TmD.tmR _ _ _ _ _ V24) hB (fun b hb => hb.2) (by omega)
  obtain ⟨ua, un, ub, um, uv, ug, uq, rfl⟩ := U25.form
  rw [hR] at U25
  have n25 := k2425.1
  have n7 : h7.length ≤ h22.length := k722.1
  refine W.bs e23 (W.bS rfl (W.gt (same_KB k2223 (show h.length < h22.length by omega) (fun h => h)) (W.q4 (o1.keepN k123) (W.bs e24 (W.bs (v := termV v1 v2 v3 v4 v5) rfl (W.bI rfl (W.bI rfl (W.bT rfl (W.bS rfl (W.bs e25 (W.bs (v := [Value.agg (plV ua un ub um uv ug uq).toArray, Value.bool (plOk (f + 1) (newP (f + 1) l t))]) rfl (W.bs (v := plV ua un ub um uv ug uq) rfl (W.bS rfl (W.bS rfl (W.bI rfl (W.bS rfl (W.bB rfl (W.gt (ne_A (show h.length ≠ h25.length by omega)) (W.nw (base := base) (h := h25) (by omega) rfl fun h26 oU k2526 q26 => ?_)))))))))))))))))))
  have k2226 := kN (kN (kN k2223 k2324) k2425) k2526
  have U26 := (PlG.kp _ _ _ _ _ _ _ _ k2526 (fun _ _ h => h) U25).plR
  have k726 := kN k722 k2226
  obtain ⟨h27, e27, k2627⟩ := eqPlain_run (base := base) rM rB.2.2.2 U26 (W7.keepN k726) (by omega)
  have n27 := k2627.1
  refine W.joinP (fun q => q = ([some (.pointer (at0 h11.length)), some (.int .i64 (1 + mcP (f + 1) R)), some (.bool false)], h27)) ?_ fun q hq => ?_
  · refine W.qP oU (W.qP (oW.keepN k726) (W.bs e27 (W.bB rfl (W.ifF (by decide) (W.inl ?_)))))
    simp
  subst hq
  have k2127 := kN (kN k2122 k2226) k2627
  obtain ⟨h28, e28, k2728⟩ := heldPlain_run (base := base) B21 mk21 (by omega) (by omega) (G21.plR.keepN k2127) (by omega)
  exact W.bA rfl (W.bI rfl (W.bB rfl (W.ifF (by decide) (W.qP (oG21.keepN k2127) (W.bs e28 (W.bI rfl (W.ifF (by simp; omega) (W.ifF (by simp) (W.ret rfl)))))))))
theorem plainNew_entry {base : Nat} {h : AH} {f f2 : Nat} {u : Value} {cs : List Value} (x : Rd Try.prog h f 22 [u]) (y : Rd Try.prog h f2 25 cs) (hb : base ≤ h.length) : ∃ h', run (Et base) 3 [u, .agg cs.toArray] h = some (.bool true, h') := by
  obtain ⟨a, l, rfl, hl, hs, hL⟩ := rd_ins x
  obtain ⟨t, ht⟩ := rd_term f2 _ y
  simp only [maxLen] at hl hL
  obtain ⟨⟨v, h'⟩, e, q⟩ := plainNew_law (f := f2) (fun x hx => by have := hL x hx; omega) (by omega) hs (TmR.up _ _ _ ht) hb fun b hb => hb
  simp only at q
  exact ⟨h', by rw [e, q]⟩
end Go.Proofs.Ytolcnednfbbnnaa.Am

