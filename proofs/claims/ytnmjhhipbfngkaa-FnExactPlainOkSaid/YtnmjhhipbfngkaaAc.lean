/- Actors: the same actor at two places, marks written, marks read.
Conditions: none. -/
import Derived.Test.YtnmjhhipbfngkaaTm3
import Derived.Test.YtnmjhhipbfngkaaMk
import Derived.Test.YtnmjhhipbfngkaaIy
set_option linter.unusedSimpArgs false
set_option linter.unusedVariables false
namespace Go.Proofs.Ytnmjhhipbfngkaa.Am
open Go Go.RowKit

/-- An actor: its number, where it stands, its registers, its box, its links. -/
structure Ac where
  pid : Int
  pc : Int
  regs : List Tm
  box : List Tm
  links : List Int
abbrev acV (p c : Int) (a : Option Addr) (n : Nat) (b : Option Addr) (m : Nat) (g : Option Addr) (q : Nat) : List Value := [.int .i64 p, .int .i64 c, .slice a n n, .slice b m m, .slice g q q]
def Ac.Le (A : Ac) : Prop := A.regs.length ≤ maxLen ∧ A.box.length ≤ maxLen ∧ A.links.length ≤ 140737488355328
/-- An actor that can be read. -/
def AcR (h : AH) (p : Nat → Prop) (f : Nat) (A : Ac) (cs : List Value) : Prop :=
  ∃ a b g, cs = acV A.pid A.pc a A.regs.length b A.box.length g A.links.length ∧ TsR h p f A.regs a ∧ TsR h p f A.box b ∧ Sl h g (iv .i64 A.links) ∧ (A.links = [] ∨ ∀ x, blk g x → p x)
/-- An actor whose rows are all its own. -/
def AcD (base f : Nat) (S : Fp) (h : AH) (A : Ac) (cs : List Value) : Prop :=
  ∃ (a b g : Option Addr) (S1 S2 S3 : Fp), cs = acV A.pid A.pc a A.regs.length b A.box.length g A.links.length ∧ RowD 4 (TmD f) S1 h A.regs a ∧ RowD 4 (TmD f) S2 h A.box b ∧ Own base 3 h g (iv .i64 A.links) ∧ (∀ x, blk g x → S3 x) ∧
    (∀ x, S1 x → S x) ∧ (∀ x, S2 x → S x) ∧ (∀ x, S3 x → S x) ∧ (∀ x, S1 x → ¬ S2 x) ∧ (∀ x, S1 x → ¬ S3 x) ∧ (∀ x, S2 x → ¬ S3 x)
theorem AcR.keep {h h' : AH} {p S : Nat → Prop} (k : KB S h h') (hp : ∀ b, p b → ¬ S b) {f : Nat} {A : Ac} {cs : List Value} (x : AcR h p f A cs) : AcR h' p f A cs := by
  obtain ⟨a, b, g, e, h1, h2, h3, h4⟩ := x
  refine ⟨a, b, g, e, h1.keep k hp, h2.keep k hp, ?_, h4⟩
  rcases h4 with e | h4
  · exact .inl (by rw [e]; rfl)
  · exact h3.keep k fun b hb hs => hp b (h4 b hb) hs
theorem AcD.kp (base f : Nat) : Kp (AcD base f) := fun S U h h' A cs k hs x => by
  obtain ⟨a, b, g, S1, S2, S3, e, h1, h2, h3, h4, s1, s2, s3, d1, d2, d3⟩ := x
  exact ⟨a, b, g, S1, S2, S3, e, h1.keep (TmD.kp _) k fun b hb => hs b (s1 b hb), h2.keep (TmD.kp _) k fun b hb => hs b (s2 b hb), h3.keep k fun b hb => hs b (s3 b (h4 b hb)), h4, s1, s2, s3, d1, d2, d3⟩
theorem AcD.mo (base f : Nat) : Mo (AcD base f) := fun S S' h A cs hs x => by
  obtain ⟨a, b, g, S1, S2, S3, e, h1, h2, h3, h4, s1, s2, s3, d1, d2, d3⟩ := x
  exact ⟨a, b, g, S1, S2, S3, e, h1, h2, h3, h4, fun x hx => hs x (s1 x hx), fun x hx => hs x (s2 x hx), fun x hx => hs x (s3 x hx), d1, d2, d3⟩
theorem TsR.mono {h : AH} {p q : Nat → Prop} (hpq : ∀ b, p b → q b) {f : Nat} {l : List Tm} {a : Option Addr} (x : TsR h p f l a) : TsR h q f l a := by
  obtain ⟨vs, h1, h2, h3, h4⟩ := x
  exact ⟨vs, h1, h2.imp id fun g b hb => hpq b (g b hb), h3, fun i t hi => TmR.mono hpq f t _ (h4 i t hi)⟩
theorem AcD.acR {base f : Nat} {S : Fp} {h : AH} {A : Ac} {cs : List Value} (x : AcD base f S h A cs) : AcR h S f A cs := by
  obtain ⟨a, b, g, S1, S2, S3, e, h1, h2, h3, h4, s1, s2, s3, d1, d2, d3⟩ := x
  exact ⟨a, b, g, e, h1.tsR.mono s1, h2.tsR.mono s2, h3.sl, .inr fun x hx => s3 x (h4 x hx)⟩

theorem AcD.form {base f : Nat} {S : Fp} {h : AH} {A : Ac} {cs : List Value} (x : AcD base f S h A cs) : ∃ p c a n b m g q, cs = acV p c a n b m g q := by
  obtain ⟨a, b, g, S1, S2, S3, e, _⟩ := x
  exact ⟨_, _, _, _, _, _, _, _, e⟩

theorem q5 {base t n : Nat} {h : AH} {p c : Int} {a b g : Option Addr} {x y z : Nat} (o : Own base t h (at0 n) (acV p c a x b y g z)) {β : Type} {f : Int → Int → Option Addr × Nat → Option Addr × Nat → Option Addr × Nat → Option β} {r : Option β} (hf : f p c (a, x) (b, y) (g, z) = r) :
    (((Am.cell h n 0).bind (getI .i64)).bind fun n1 => ((Am.cell h n 1).bind (getI .i64)).bind fun n2 => ((Am.cell h n 2).bind getS).bind fun l3 => ((Am.cell h n 3).bind getS).bind fun l4 => ((Am.cell h n 4).bind getS).bind fun l5 => f n1 n2 l3 l4 l5) = r :=
  bI (o.at0 (i := 0) rfl) (bI (o.at0 (i := 1) rfl) (bS (o.at0 (i := 2) rfl) (bS (o.at0 (i := 3) rfl) (bS (o.at0 (i := 4) rfl) hf))))

theorem eqActor_run {base f f2 : Nat} {h : AH} {p p2 : Nat → Prop} {A : Ac} {cs cs2 : List Value} (hA : A.Le) (x : AcR h p f A cs) (x2 : AcR h p2 f2 A cs2) (hb : base ≤ h.length) :
    ∃ h', run (Et base) 15 [.agg cs.toArray, .agg cs2.toArray] h = some (.bool true, h') ∧ KB NoB h h' := by
  obtain ⟨a, b, g, rfl, hr, hx, hl, _⟩ := x
  obtain ⟨a2, b2, g2, rfl, hr2, hx2, hl2, _⟩ := x2
  obtain ⟨l1, l2, l3⟩ := hA
  simp only [maxLen] at l1 l2
  obtain ⟨o1, k1, q1⟩ := box_own (base := base) (t := 29) (h := h) (cs := acV A.pid A.pc a A.regs.length b A.box.length g A.links.length) hb rfl
  generalize hh1 : h ++ [some (⟨acV A.pid A.pc a A.regs.length b A.box.length g A.links.length, 29⟩ : Blk)] = h1 at o1 k1 q1
  obtain ⟨o2, k2, q2⟩ := box_own (base := base) (t := 29) (h := h1) (cs := acV A.pid A.pc a2 A.regs.length b2 A.box.length g2 A.links.length) (by omega) rfl
  generalize hh2 : h1 ++ [some (⟨acV A.pid A.pc a2 A.regs.length b2 A.box.length g2 A.links.length, 29⟩ : Blk)] = h2 at o2 k2 q2
  have k02 := kN k1 k2
  have o1 := o1.keepN k2
  obtain ⟨h3, e3, k3⟩ := eqTermS_run (base := base) (eqTerm_run f) (by omega) (hr.keep k02 fun _ _ h => h) (hr2.keep k02 fun _ _ h => h) (by omega)
  have k03 := kN k02 k3
  have n3 := k3.1
  obtain ⟨h4, e4, k4⟩ := eqTermS_run (base := base) (eqTerm_run f) (by omega) (hx.keep k03 fun _ _ h => h) (hx2.keep k03 fun _ _ h => h) (by omega)
  have k04 := kN k03 k4
  have e5 := eqIntS_run (base := base) (h := h4) (hl.keepN k04) (hl2.keepN k04) l3
  rw [decide_eq_true rfl] at e5
  refine ⟨h4, r15 (lets fun y ey => ?_), k04⟩
  rw [hh1] at ey
  subst ey
  refine lets fun y ey => ?_
  rw [hh2] at ey
  subst ey
  refine bI (o1.at0 (i := 0) rfl) (bI (o2.at0 (i := 0) rfl) (ifF (by simp) (bI (o1.at0 (i := 1) rfl) (bI (o2.at0 (i := 1) rfl) (ifF (by simp) ?_)))))
  refine bS (o1.at0 (i := 2) rfl) (bS (o2.at0 (i := 2) rfl) (bs e3 (bB rfl (ifF (by decide) ?_))))
  refine bS ((o1.keepN k3).at0 (i := 3) rfl) (bS ((o2.keepN k3).at0 (i := 3) rfl) (bs e4 (bB rfl (ifF (by decide) ?_))))
  exact bS (((o1.keepN k3).keepN k4).at0 (i := 4) rfl) (bS (((o2.keepN k3).keepN k4).at0 (i := 4) rfl) (bs e5 (bB rfl (ifF (by decide) rfl))))

/-- How many marks an actor takes. -/
def mcL (f : Nat) (l : List Tm) : Int := 3 * ((l.length + sumL (tcnt f) l : Nat) : Int)
def mcA (f : Nat) (A : Ac) : Int := mcL f A.regs + mcL f A.box + (A.links.length : Int)
/-- An actor whose places hold the marks. -/
def IsMA (A : Ac) (k k' : Int) : Prop := ∃ k1 k2 : Int, IsM A.regs k k1 ∧ IsM A.box k1 k2 ∧ A.links = marksI k2.toNat A.links.length ∧ k' = k2 + (A.links.length : Int)

end Go.Proofs.Ytnmjhhipbfngkaa.Am
