/- Actors: the same actor at two places, marks written, marks read.
Conditions: none. -/
import Derived.Test.YtnmjhhipbfngkaaTm3
import Derived.Test.YtnmjhhipbfngkaaMk
import Derived.Test.YtnmjhhipbfngkaaIy
set_option linter.unusedSimpArgs false
set_option linter.unusedVariables false
namespace Go.Proofs.Ytnmjhhipbfngkaa.Am
open Go Go.RowKit

theorem TmR.form {f : Nat} {p : Nat → Prop} {h : AH} {t : Tm} {cs : List Value} (x : TmR h p f t cs) : ∃ k n s a m, cs = termV k n s a m := by
  cases f with
  | zero => exact x.elim
  | succ f =>
    obtain ⟨k, n, s, l⟩ := t
    obtain ⟨a, e, _⟩ := x.parts
    exact ⟨k, n, s, a, l.length, e⟩
/-- An actor: its number, where it stands, its registers, its box, its links. -/
structure Ac where
  pid : Int
  pc : Int
  regs : List Tm
  box : List Tm
  links : List Int
abbrev acV (p c : Int) (a : Option Addr) (n : Nat) (b : Option Addr) (m : Nat) (g : Option Addr) (q : Nat) : List Value := [.int .i64 p, .int .i64 c, .slice a n n, .slice b m m, .slice g q q]
def Ac.Le (A : Ac) : Prop := A.regs.length ≤ maxLen ∧ A.box.length ≤ maxLen ∧ A.links.length ≤ 140737488355328
/-- An actor that can be read. -/
def AcR (h : AH) (p : Nat → Prop) (f : Nat) (A : Ac) (cs : List Value) : Prop :=
  ∃ a b g, cs = acV A.pid A.pc a A.regs.length b A.box.length g A.links.length ∧ TsR h p f A.regs a ∧ TsR h p f A.box b ∧ Sl h g (iv .i64 A.links) ∧ (A.links = [] ∨ ∀ x, blk g x → p x)
/-- An actor whose rows are all its own. -/
def AcD (base f : Nat) (S : Fp) (h : AH) (A : Ac) (cs : List Value) : Prop :=
  ∃ (a b g : Option Addr) (S1 S2 S3 : Fp), cs = acV A.pid A.pc a A.regs.length b A.box.length g A.links.length ∧ RowD 4 (TmD f) S1 h A.regs a ∧ RowD 4 (TmD f) S2 h A.box b ∧ Own base 3 h g (iv .i64 A.links) ∧ (∀ x, blk g x → S3 x) ∧
    (∀ x, S1 x → S x) ∧ (∀ x, S2 x → S x) ∧ (∀ x, S3 x → S x) ∧ (∀ x, S1 x → ¬ S2 x) ∧ (∀ x, S1 x → ¬ S3 x) ∧ (∀ x, S2 x → ¬ S3 x)
theorem AcR.keep {h h' : AH} {p S : Nat → Prop} (k : KB S h h') (hp : ∀ b, p b → ¬ S b) {f : Nat} {A : Ac} {cs : List Value} (x : AcR h p f A cs) : AcR h' p f A cs := by
  obtain ⟨a, b, g, e, h1, h2, h3, h4⟩ := x
  refine ⟨a, b, g, e, h1.keep k hp, h2.keep k hp, ?_, h4⟩
  rcases h4 with e | h4
  · exact .inl (by rw [e]; rfl)
  · exact h3.keep k fun b hb hs => hp b (h4 b hb) hs
theorem AcD.kp (base f : Nat) : Kp (AcD base f) := fun S U h h' A cs k hs x => by
  obtain ⟨a, b, g, S1, S2, S3, e, h1, h2, h3, h4, s1, s2, s3, d1, d2, d3⟩ := x
  exact ⟨a, b, g, S1, S2, S3, e, h1.keep (TmD.kp _) k fun b hb => hs b (s1 b hb), h2.keep (TmD.kp _) k fun b hb => hs b (s2 b hb), h3.keep k fun b hb => hs b (s3 b (h4 b hb)), h4, s1, s2, s3, d1, d2, d3⟩
theorem AcD.mo (base f : Nat) : Mo (AcD base f) := fun S S' h A cs hs x => by
  obtain ⟨a, b, g, S1, S2, S3, e, h1, h2, h3, h4, s1, s2, s3, d1, d2, d3⟩ := x
  exact ⟨a, b, g, S1, S2, S3, e, h1, h2, h3, h4, fun x hx => hs x (s1 x hx), fun x hx => hs x (s2 x hx), fun x hx => hs x (s3 x hx), d1, d2, d3⟩
theorem TsR.mono {h : AH} {p q : Nat → Prop} (hpq : ∀ b, p b → q b) {f : Nat} {l : List Tm} {a : Option Addr} (x : TsR h p f l a) : TsR h q f l a := by
  obtain ⟨vs, h1, h2, h3, h4⟩ := x
  exact ⟨vs, h1, h2.imp id fun g b hb => hpq b (g b hb), h3, fun i t hi => TmR.mono hpq f t _ (h4 i t hi)⟩
theorem AcD.acR {base f : Nat} {S : Fp} {h : AH} {A : Ac} {cs : List Value} (x : AcD base f S h A cs) : AcR h S f A cs := by
  obtain ⟨a, b, g, S1, S2, S3, e, h1, h2, h3, h4, s1, s2, s3, d1, d2, d3⟩ := x
  exact ⟨a, b, g, e, h1.tsR.mono s1, h2.tsR.mono s2, h3.sl, .inr fun x hx => s3 x (h4 x hx)⟩

theorem AcD.form {base f : Nat} {S : Fp} {h : AH} {A : Ac} {cs : List Value} (x : AcD base f S h A cs) : ∃ p c a n b m g q, cs = acV p c a n b m g q := by
  obtain ⟨a, b, g, S1, S2, S3, e, _⟩ := x
  exact ⟨_, _, _, _, _, _, _, _, e⟩

theorem q5 {base t n : Nat} {h : AH} {p c : Int} {a b g : Option Addr} {x y z : Nat} (o : Own base t h (at0 n) (acV p c a x b y g z)) {β : Type} {f : Int → Int → Option Addr × Nat → Option Addr × Nat → Option Addr × Nat → Option β} {r : Option β} (hf : f p c (a, x) (b, y) (g, z) = r) :
    (((Am.cell h n 0).bind (getI .i64)).bind fun n1 => ((Am.cell h n 1).bind (getI .i64)).bind fun n2 => ((Am.cell h n 2).bind getS).bind fun l3 => ((Am.cell h n 3).bind getS).bind fun l4 => ((Am.cell h n 4).bind getS).bind fun l5 => f n1 n2 l3 l4 l5) = r :=
  bI (o.at0 (i := 0) rfl) (bI (o.at0 (i := 1) rfl) (bS (o.at0 (i := 2) rfl) (bS (o.at0 (i := 3) rfl) (bS (o.at0 (i := 4) rfl) hf))))

theorem eqActor_run {base f f2 : Nat} {h : AH} {p p2 : Nat → Prop} {A : Ac} {cs cs2 : List Value} (hA : A.Le) (x : AcR h p f A cs) (x2 : AcR h p2 f2 A cs2) (hb : base ≤ h.length) :
    ∃ h', run (Et base) 15 [.agg cs.toArray, .agg cs2.toArray] h = some (.bool true, h') ∧ KB NoB h h' := by
  obtain ⟨a, b, g, rfl, hr, hx, hl, _⟩ := x
  obtain ⟨a2, b2, g2, rfl, hr2, hx2, hl2, _⟩ := x2
  obtain ⟨l1, l2, l3⟩ := hA
  simp only [maxLen] at l1 l2
  obtain ⟨o1, k1, q1⟩ := box_own (base := base) (t := 29) (h := h) (cs := acV A.pid A.pc a A.regs.length b A.box.length g A.links.length) hb rfl
  generalize hh1 : h ++ [some (⟨acV A.pid A.pc a A.regs.length b A.box.length g A.links.length, 29⟩ : Blk)] = h1 at o1 k1 q1
  obtain ⟨o2, k2, q2⟩ := box_own (base := base) (t := 29) (h := h1) (cs := acV A.pid A.pc a2 A.regs.length b2 A.box.length g2 A.links.length) (by omega) rfl
  generalize hh2 : h1 ++ [some (⟨acV A.pid A.pc a2 A.regs.length b2 A.box.length g2 A.links.length, 29⟩ : Blk)] = h2 at o2 k2 q2
  have k02 := kN k1 k2
  have o1 := o1.keepN k2
  obtain ⟨h3, e3, k3⟩ := eqTermS_run (base := base) (eqTerm_run f) (by omega) (hr.keep k02 fun _ _ h => h) (hr2.keep k02 fun _ _ h => h) (by omega)
  have k03 := kN k02 k3
  have n3 := k3.1
  obtain ⟨h4, e4, k4⟩ := eqTermS_run (base := base) (eqTerm_run f) (by omega) (hx.keep k03 fun _ _ h => h) (hx2.keep k03 fun _ _ h => h) (by omega)
  have k04 := kN k03 k4
  have e5 := eqIntS_run (base := base) (h := h4) (hl.keepN k04) (hl2.keepN k04) l3
  rw [decide_eq_true rfl] at e5
  refine ⟨h4, r15 (lets fun y ey => ?_), k04⟩
  rw [hh1] at ey
  subst ey
  refine lets fun y ey => ?_
  rw [hh2] at ey
  subst ey
  refine bI (o1.at0 (i := 0) rfl) (bI (o2.at0 (i := 0) rfl) (ifF (by simp) (bI (o1.at0 (i := 1) rfl) (bI (o2.at0 (i := 1) rfl) (ifF (by simp) ?_)))))
  refine bS (o1.at0 (i := 2) rfl) (bS (o2.at0 (i := 2) rfl) (bs e3 (bB rfl (ifF (by decide) ?_))))
  refine bS ((o1.keepN k3).at0 (i := 3) rfl) (bS ((o2.keepN k3).at0 (i := 3) rfl) (bs e4 (bB rfl (ifF (by decide) ?_))))
  exact bS (((o1.keepN k3).keepN k4).at0 (i := 4) rfl) (bS (((o2.keepN k3).keepN k4).at0 (i := 4) rfl) (bs e5 (bB rfl (ifF (by decide) rfl))))

/-- How many marks an actor takes. -/
def mcL (f : Nat) (l : List Tm) : Int := 3 * ((l.length + sumL (tcnt f) l : Nat) : Int)
def mcA (f : Nat) (A : Ac) : Int := mcL f A.regs + mcL f A.box + (A.links.length : Int)
/-- An actor whose places hold the marks. -/
def IsMA (A : Ac) (k k' : Int) : Prop := ∃ k1 k2 : Int, IsM A.regs k k1 ∧ IsM A.box k1 k2 ∧ A.links = marksI k2.toNat A.links.length ∧ k' = k2 + (A.links.length : Int)

theorem markActor_run {base f : Nat} {h : AH} {S : Fp} {A : Ac} {cs : List Value} {k : Int} (hA : A.Le) (x : AcD base f S h A cs) (hS : ∀ b, S b → base ≤ b ∧ b < h.length) (hb : base ≤ h.length) (h0 : 0 ≤ k) (hk : k + mcA f A ≤ 1000000000) :
    ∃ A' h', run (Et base) 18 [.agg cs.toArray, .int .i64 k] h = some (.int .i64 (k + mcA f A), h') ∧ AcD base f S h' A' cs ∧ A'.Le ∧ IsMA A' k (k + mcA f A) ∧ KB S h h' := by
  obtain ⟨a, b, g, S1, S2, S3, rfl, hr, hx, hl, hg, s1, s2, s3, d1, d2, d3⟩ := x
  obtain ⟨l1, l2, l3⟩ := hA
  have hm1 : 0 ≤ mcL f A.regs := by unfold mcL; omega
  have hm2 : 0 ≤ mcL f A.box := by unfold mcL; omega
  unfold mcA at hk ⊢
  obtain ⟨o1, k1, q1⟩ := box_own (base := base) (t := 29) (h := h) (cs := acV A.pid A.pc a A.regs.length b A.box.length g A.links.length) hb rfl
  generalize hh1 : h ++ [some (⟨acV A.pid A.pc a A.regs.length b A.box.length g A.links.length, 29⟩ : Blk)] = h1 at o1 k1 q1
  obtain ⟨lr, h2, e2, hr2, len2, m2, k2⟩ := markTermS_run (base := base) f A.regs h1 S1 a k (hr.keep (TmD.kp _) k1 fun _ _ h => h) l1 (fun b hb => by have := hS b (s1 b hb); omega) h0 (by unfold mcL at hk; omega)
  have n2 := k2.1
  obtain ⟨lb, h3, e3, hx3, len3, m3, k3⟩ := markTermS_run (base := base) f A.box h2 S2 b (k + mcL f A.regs) ((hx.keep (TmD.kp _) k1 fun _ _ h => h).keep (TmD.kp _) k2 fun b hb hb' => d1 b hb' hb) l2 (fun b hb => by have := hS b (s2 b hb); omega) (by omega) (by unfold mcL at hk ⊢; omega)
  have n3 := k3.1
  have hl3 : Own base 3 h3 g (iv .i64 A.links) := ((hl.keepN k1).keep k2 fun b hb hb' => d2 b hb' (hg b hb)).keep k3 fun b hb hb' => d3 b hb' (hg b hb)
  have hk2 : ((k + mcL f A.regs + mcL f A.box).toNat : Int) = k + mcL f A.regs + mcL f A.box := by omega
  obtain ⟨h4, e4, hl4, k4⟩ := markIntS_run (base := base) (k := (k + mcL f A.regs + mcL f A.box).toNat) hl3 l3 (by omega)
  rw [Int.natCast_add, hk2] at e4
  have hmk : (marksI (k + mcL f A.regs + mcL f A.box).toNat A.links.length).length = A.links.length := by simp [marksI]
  refine ⟨⟨A.pid, A.pc, lr, lb, marksI (k + mcL f A.regs + mcL f A.box).toNat A.links.length⟩, h4, r18 (lets fun y ey => ?_), ⟨a, b, g, S1, S2, S3, by simp only [len2, len3, hmk], (hr2.keep (TmD.kp _) k3 fun b hb hb' => d1 b hb hb').keep (TmD.kp _) k4 fun b hb hb' => d2 b hb (hg b hb'), hx3.keep (TmD.kp _) k4 fun b hb hb' => d3 b hb (hg b hb'), hl4, hg, s1, s2, s3, d1, d2, d3⟩, ⟨by simp only [len2]; exact l1, by simp only [len3]; exact l2, by simp only [hmk]; exact l3⟩, ⟨k + mcL f A.regs, k + mcL f A.regs + mcL f A.box, m2, m3, by simp only [hmk], by simp only [hmk]; omega⟩, ?_⟩
  · rw [hh1] at ey
    subst ey
    have nb : ∀ b, blk (at0 h.length) b → ¬ S b := fun b hb hb' => by rw [blk_at0] at hb; have := hS b hb'; omega
    refine bS (o1.at0 (i := 2) rfl) (bs e2 (bI rfl (bS ((o1.keep k2 fun b hb hb' => nb b hb (s1 b hb')).at0 (i := 3) rfl) (bs e3 (bI rfl ?_)))))
    refine bS (((o1.keep k2 fun b hb hb' => nb b hb (s1 b hb')).keep k3 fun b hb hb' => nb b hb (s2 b hb')).at0 (i := 4) rfl) (bs e4 (bI rfl ?_))
    show some _ = some _
    rw [show k + mcL f A.regs + mcL f A.box + (A.links.length : Int) = k + (mcL f A.regs + mcL f A.box + (A.links.length : Int)) from by omega]
  · exact KB.trans (KB.trans (KB.trans (KB.mono k1 fun _ _ h => h.elim) k2 (fun _ _ h => h) (fun b _ hb => s1 b hb)) k3 (fun _ _ h => h) (fun b _ hb => s2 b hb)) k4 (fun _ _ h => h) (fun b _ hb => s3 b (hg b hb))

theorem heldActor_run {base f : Nat} {h : AH} {p : Nat → Prop} {A : Ac} {cs : List Value} {k k' : Int} (hA : A.Le) (m : IsMA A k k') (h0 : 0 ≤ k) (hk : k' ≤ 1000000000) (x : AcR h p f A cs) (hb : base ≤ h.length) :
    ∃ h', run (Et base) 19 [.agg cs.toArray, .int .i64 k] h = some (.int .i64 k', h') ∧ KB NoB h h' := by
  obtain ⟨a, b, g, rfl, hr, hx, hl, _⟩ := x
  obtain ⟨l1, l2, l3⟩ := hA
  simp only [maxLen] at l1 l2
  obtain ⟨k1', k2', m1, m2, m3, rfl⟩ := m
  have z1 := m1.le
  have z2 := m2.le
  obtain ⟨o1, k1, q1⟩ := box_own (base := base) (t := 29) (h := h) (cs := acV A.pid A.pc a A.regs.length b A.box.length g A.links.length) hb rfl
  generalize hh1 : h ++ [some (⟨acV A.pid A.pc a A.regs.length b A.box.length g A.links.length, 29⟩ : Blk)] = h1 at o1 k1 q1
  obtain ⟨h2, e2, k2⟩ := heldTermS_run (base := base) m1 h0 (by omega) (by omega) (hr.keep k1 fun _ _ h => h) (by omega)
  have k02 := kN k1 k2
  have n2 := k2.1
  obtain ⟨h3, e3, k3⟩ := heldTermS_run (base := base) m2 (by omega) (by omega) (by omega) (hx.keep k02 fun _ _ h => h) (by omega)
  have k03 := kN k02 k3
  rw [m3] at hl
  have e4 := heldIntS_run (base := base) (hl.keepN k03) l3 (by omega)
  rw [Int.natCast_add, show ((k2'.toNat : Nat) : Int) = k2' from by omega] at e4
  refine ⟨h3, r19 (lets fun y ey => ?_), k03⟩
  rw [hh1] at ey
  subst ey
  refine bS (o1.at0 (i := 2) rfl) (bs e2 (bI rfl (ifF (by simp; omega) (bS ((o1.keepN k2).at0 (i := 3) rfl) (bs e3 (bI rfl (ifF (by simp; omega) ?_)))))))
  exact bS (((o1.keepN k2).keepN k3).at0 (i := 4) rfl) (bs e4 (bI rfl (ifF (by simp; omega) rfl)))
end Go.Proofs.Ytnmjhhipbfngkaa.Am
