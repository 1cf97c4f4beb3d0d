/- Systems on terms: counted, copied, compared.
Conditions: none. -/
import Derived.Test.YtnmjhhipbfngkaaPla
import Derived.Test.YtnmjhhipbfngkaaSdS
set_option linter.unusedSimpArgs false
set_option linter.unusedVariables false
namespace Go.Proofs.Ytnmjhhipbfngkaa.Am
open Go Go.RowKit

/-- A system: its code, its actors, the next number, what was said. -/
structure Pl where
  code : List In
  acs : List Ac
  next : Int
  out : List Sd
abbrev plV (a : Option Addr) (n : Nat) (b : Option Addr) (m : Nat) (v : Int) (g : Option Addr) (q : Nat) : List Value := [.slice a n n, .slice b m m, .int .i64 v, .slice g q q]
/-- A system that can be read. -/
def PlR (h : AH) (p : Nat → Prop) (f : Nat) (P : Pl) (cs : List Value) : Prop :=
  ∃ a b g, cs = plV a P.code.length b P.acs.length P.next g P.out.length ∧ Sl h a (insR P.code) ∧ (insR P.code = [] ∨ ∀ x, blk a x → p x) ∧ AsR h p f P.acs b ∧ SsR h p f P.out g
def PlM (P : Pl) : Prop := P.code.length ≤ 9223372036854775807 ∧ (∀ x ∈ P.code, x.s.size ≤ 9223372036854775807) ∧ P.acs.length ≤ 9223372036854775807 ∧ (∀ A ∈ P.acs, AcM A) ∧ P.out.length ≤ 9223372036854775807
def PlB (f : Nat) (P : Pl) : Prop := P.code.length ≤ 1048576 ∧ (∀ x ∈ P.code, x.s.size ≤ 1048576) ∧ P.acs.length ≤ 1048576 ∧ (∀ A ∈ P.acs, AcB f A) ∧ P.out.length ≤ 1048576 ∧ (∀ x ∈ P.out, TmB f x.t)
theorem AcB.M {f : Nat} {A : Ac} (x : AcB f A) : AcM A := by
  obtain ⟨h1, h2, h3, _, _⟩ := x
  exact ⟨by omega, by omega, by omega⟩
theorem AcB.Le {f : Nat} {A : Ac} (x : AcB f A) : A.Le := by
  obtain ⟨h1, h2, h3, _, _⟩ := x
  exact ⟨by simp only [maxLen]; omega, by simp only [maxLen]; omega, by omega⟩
theorem PlB.M {f : Nat} {P : Pl} (x : PlB f P) : PlM P := by
  obtain ⟨h1, h2, h3, h4, h5, _⟩ := x
  exact ⟨by omega, fun x hx => by have := h2 x hx; omega, by omega, fun A hA => (h4 A hA).M, by omega⟩
/-- A system all of whose rows are its own. -/
def PlD (base f : Nat) (S : Fp) (h : AH) (P : Pl) (cs : List Value) : Prop :=
  ∃ (a b g : Option Addr) (S1 S2 S3 : Fp), cs = plV a P.code.length b P.acs.length P.next g P.out.length ∧ Own base 116 h a (insR P.code) ∧ (∀ x, blk a x → S1 x) ∧ RowD 5 (AcD base f) S2 h P.acs b ∧ RowD 6 (SdD f) S3 h P.out g ∧
    (∀ x, S1 x → S x) ∧ (∀ x, S2 x → S x) ∧ (∀ x, S3 x → S x) ∧ (∀ x, S1 x → ¬ S2 x) ∧ (∀ x, S1 x → ¬ S3 x) ∧ (∀ x, S2 x → ¬ S3 x)
theorem SsR.monoP {h : AH} {p r : Nat → Prop} {f : Nat} {l : List Sd} {a : Option Addr} (x : SsR h p f l a) (hq : ∀ b, p b → r b) : SsR h r f l a := by
  obtain ⟨vs, h1, h2, h3, h4⟩ := x
  exact ⟨vs, h1, h2.imp id fun g b hb => hq b (g b hb), h3, fun i t hi => by
    obtain ⟨cs, e, hm⟩ := h4 i t hi
    exact ⟨cs, e, hm.mono hq _ _ _⟩⟩
theorem AsR.monoP {h : AH} {p r : Nat → Prop} {f : Nat} {l : List Ac} {a : Option Addr} (x : AsR h p f l a) (hq : ∀ b, p b → r b) : AsR h r f l a := by
  obtain ⟨vs, h1, h2, h3, h4⟩ := x
  exact ⟨vs, h1, h2.imp id fun g b hb => hq b (g b hb), h3, fun i t hi => (h4 i t hi).mono hq⟩
theorem PlR.keep {h h' : AH} {p S : Nat → Prop} (k : KB S h h') (hp : ∀ b, p b → ¬ S b) {f : Nat} {P : Pl} {cs : List Value} (x : PlR h p f P cs) : PlR h' p f P cs := by
  obtain ⟨a, b, g, e, h1, h2, h3, h4⟩ := x
  refine ⟨a, b, g, e, ?_, h2, h3.keep k hp, h4.keep k hp⟩
  rcases h2 with e | h2
  · exact .inl e
  · exact h1.keep k fun b hb hs => hp b (h2 b hb) hs
theorem PlR.keepN {h h' : AH} {p : Nat → Prop} (k : KB NoB h h') {f : Nat} {P : Pl} {cs : List Value} (x : PlR h p f P cs) : PlR h' p f P cs := x.keep k fun _ _ h => h
theorem PlD.plR {base f : Nat} {S : Fp} {h : AH} {P : Pl} {cs : List Value} (x : PlD base f S h P cs) : PlR h S f P cs := by
  obtain ⟨a, b, g, S1, S2, S3, e, h1, h2, h3, h4, s1, s2, s3, _⟩ := x
  exact ⟨a, b, g, e, h1.sl, .inr fun x hx => s1 x (h2 x hx), h3.asR.monoP s2, h4.ssR.monoP s3⟩
theorem PlD.kp (base f : Nat) : Kp (PlD base f) := fun S U h h' P cs k hs x => by
  obtain ⟨a, b, g, S1, S2, S3, e, h1, h2, h3, h4, s1, s2, s3, d1, d2, d3⟩ := x
  exact ⟨a, b, g, S1, S2, S3, e, h1.keep k fun b hb => hs b (s1 b (h2 b hb)), h2, h3.keep (AcD.kp _ _) k fun b hb => hs b (s2 b hb), h4.keep (SdD.kp _) k fun b hb => hs b (s3 b hb), s1, s2, s3, d1, d2, d3⟩
theorem PlD.mo (base f : Nat) : Mo (PlD base f) := fun S S' h P cs hs x => by
  obtain ⟨a, b, g, S1, S2, S3, e, h1, h2, h3, h4, s1, s2, s3, d1, d2, d3⟩ := x
  exact ⟨a, b, g, S1, S2, S3, e, h1, h2, h3, h4, fun x hx => hs x (s1 x hx), fun x hx => hs x (s2 x hx), fun x hx => hs x (s3 x hx), d1, d2, d3⟩
theorem PlD.form {base f : Nat} {S : Fp} {h : AH} {P : Pl} {cs : List Value} (x : PlD base f S h P cs) : ∃ a n b m v g q, cs = plV a n b m v g q := by
  obtain ⟨a, b, g, S1, S2, S3, e, _⟩ := x
  exact ⟨_, _, _, _, _, _, _, e⟩

theorem szPlain_run {base f : Nat} {h : AH} {p : Nat → Prop} {P : Pl} {cs : List Value} (hM : PlM P) (x : PlR h p f P cs) (hb : base ≤ h.length) (hp : ∀ b, p b → b < h.length) :
    ∃ z h', run (Et base) 40 [.agg cs.toArray, .int .i64 1048576] h = some (.int .i64 z, h') ∧ KB NoB h h' ∧ (¬ z < 0 → PlB f P ∧ ((P.acs.length + sumL (acnt f) P.acs : Nat) : Int) + ((P.out.length + sumL (fun x => tcnt f x.t) P.out : Nat) : Int) ≤ 1048576 ∧ 0 ≤ z ∧ z + ((P.acs.length + sumL (acnt f) P.acs : Nat) : Int) + ((P.out.length + sumL (fun x => tcnt f x.t) P.out : Nat) : Int) ≤ 1048576) := by
  obtain ⟨a, b, g, rfl, hr, _, hx, ho⟩ := x
  obtain ⟨m1, m2, m3, m4, m5⟩ := hM
  obtain ⟨o1, k1, q1⟩ := box_own (base := base) (t := 64) (h := h) (cs := plV a P.code.length b P.acs.length P.next g P.out.length) hb rfl
  generalize hh1 : h ++ [some (⟨plV a P.code.length b P.acs.length P.next g P.out.length, 64⟩ : Blk)] = h1' at o1 k1 q1
  obtain ⟨z2, h2, e2, k2, y⟩ := szInsS_run (base := base) (h := h1') m2 m1 (hr.keepN k1) (by omega)
  have n2 := k2.1
  have k02 := kN k1 k2
  have go : ∀ {r : Value × AH}, ((if (decide (z2 < (0 : Int))) = true then some (.int .i64 (-1 : Int), h2) else ((cell h2 (List.length h) 1).bind getS).bind fun l5 => (run (Et base) 95 [(.slice l5.1 l5.2 l5.2), (.int .i64 z2)] h2).bind fun r6 => ((some r6.1).bind (getI .i64)).bind fun n7 =>
      (if (decide (n7 < (0 : Int))) = true then some ((.int .i64 (-1 : Int)), r6.2) else ((cell r6.2 (List.length h) 3).bind getS).bind fun l8 => (run (Et base) 96 [(.slice l8.1 l8.2 l8.2), (.int .i64 n7)] r6.2).bind fun r9 => ((some r9.1).bind (getI .i64)).bind fun n10 => (if (decide (n10 < (0 : Int))) = true then some ((.int .i64 (-1 : Int)), r9.2) else some ((.int .i64 n10), r9.2)))) = some r) →
      run (Et base) 40 [.agg (plV a P.code.length b P.acs.length P.next g P.out.length).toArray, .int .i64 1048576] h = some r := by
    intro r hr
    refine r40 (lets fun y ey => ?_)
    rw [hh1] at ey
    rw [ey]
    exact bS (o1.at0 (i := 0) rfl) (bs e2 (bI rfl hr))
  by_cases c2 : z2 < 0
  · exact ⟨-1, h2, go (ifT (decide_eq_true c2) rfl), k02, fun h => absurd (by decide) h⟩
  obtain ⟨b1, b2, b3⟩ := y c2
  obtain ⟨z3, h3, e3, k3, u1, u2, u3⟩ := szActorS_run (base := base) (left := z2) m3 m4 (hx.keep k02 fun _ _ h => h) (by omega) (fun b hb => by have := hp b hb; omega) (by omega) (by omega)
  have n3 := k3.1
  have k03 := kN k02 k3
  by_cases c3 : z3 < 0
  · exact ⟨-1, h3, go (ifF (by simpa using c2) (bS ((o1.keepN k2).at0 (i := 1) rfl) (bs e3 (bI rfl (ifT (decide_eq_true c3) rfl))))), k03, fun h => absurd (by decide) h⟩
  obtain ⟨d1, d2, d3⟩ := u3 c3
  obtain ⟨z4, h4, e4, k4, v1, v2, v3⟩ := szSaidS_any (base := base) (left := z3) m5 (ho.keep k03 fun _ _ h => h) (by omega) (fun b hb => by have := hp b hb; omega) (by omega) (by omega)
  have k04 := kN k03 k4
  by_cases c4 : z4 < 0
  · exact ⟨-1, h4, go (ifF (by simpa using c2) (bS ((o1.keepN k2).at0 (i := 1) rfl) (bs e3 (bI rfl (ifF (by simpa using c3) (bS (((o1.keepN k2).keepN k3).at0 (i := 3) rfl) (bs e4 (bI rfl (ifT (decide_eq_true c4) rfl))))))))), k04, fun h => absurd (by decide) h⟩
  · obtain ⟨w1, w2, w3⟩ := v3 c4
    exact ⟨z4, h4, go (ifF (by simpa using c2) (bS ((o1.keepN k2).at0 (i := 1) rfl) (bs e3 (bI rfl (ifF (by simpa using c3) (bS (((o1.keepN k2).keepN k3).at0 (i := 3) rfl) (bs e4 (bI rfl (ifF (by simpa using c4) rfl))))))))), k04, fun _ => ⟨⟨b1, b2, d1, d2, w1, w2⟩, by omega, by omega, by omega⟩⟩

theorem eqPlain_run {base f f2 : Nat} {h : AH} {p p2 : Nat → Prop} {P : Pl} {cs cs2 : List Value} (hM : PlM P) (hL : ∀ A ∈ P.acs, A.Le) (x : PlR h p f P cs) (x2 : PlR h p2 f2 P cs2) (hb : base ≤ h.length) :
    ∃ h', run (Et base) 44 [.agg cs.toArray, .agg cs2.toArray] h = some (.bool true, h') ∧ KB NoB h h' := by
  obtain ⟨a, b, g, rfl, hr, _, hx, ho⟩ := x
  obtain ⟨a2, b2, g2, rfl, hr2, _, hx2, ho2⟩ := x2
  obtain ⟨m1, m2, m3, m4, m5⟩ := hM
  obtain ⟨o1, k1, q1⟩ := box_own (base := base) (t := 70) (h := h) (cs := plV a P.code.length b P.acs.length P.next g P.out.length) hb rfl
  generalize hh1 : h ++ [some (⟨plV a P.code.length b P.acs.length P.next g P.out.length, 70⟩ : Blk)] = h1 at o1 k1 q1
  obtain ⟨o2, k2, q2⟩ := box_own (base := base) (t := 70) (h := h1) (cs := plV a2 P.code.length b2 P.acs.length P.next g2 P.out.length) (by omega) rfl
  generalize hh2 : h1 ++ [some (⟨plV a2 P.code.length b2 P.acs.length P.next g2 P.out.length, 70⟩ : Blk)] = h2 at o2 k2 q2
  have k02 := kN k1 k2
  have o1 := o1.keepN k2
  obtain ⟨h3, e3, k3⟩ := eqInsS_run (base := base) (h := h2) m1 (hr.keepN k02) (hr2.keepN k02) (by omega)
  have k03 := kN k02 k3
  have n3 := k3.1
  obtain ⟨h4, e4, k4⟩ := eqActorS_run (base := base) m3 hL (hx.keepN k03) (hx2.keepN k03) (by omega)
  have k04 := kN k03 k4
  have n4 := k4.1
  obtain ⟨h5, e5, k5⟩ := eqSaidS_run (base := base) m5 (ho.keep k04 fun _ _ h => h) (ho2.keep k04 fun _ _ h => h) (by omega)
  refine ⟨h5, r44 (lets fun y ey => ?_), kN k04 k5⟩
  rw [hh1] at ey
  subst ey
  refine lets fun y ey => ?_
  rw [hh2] at ey
  subst ey
  refine bS (o1.at0 (i := 0) rfl) (bS (o2.at0 (i := 0) rfl) (bs e3 (bB rfl (ifF (by decide) ?_))))
  refine bS ((o1.keepN k3).at0 (i := 1) rfl) (bS ((o2.keepN k3).at0 (i := 1) rfl) (bs e4 (bB rfl (ifF (by decide) ?_))))
  refine bI (((o1.keepN k3).keepN k4).at0 (i := 2) rfl) (bI (((o2.keepN k3).keepN k4).at0 (i := 2) rfl) (ifF (by simp) ?_))
  exact bS (((o1.keepN k3).keepN k4).at0 (i := 3) rfl) (bS (((o2.keepN k3).keepN k4).at0 (i := 3) rfl) (bs e5 (bB rfl (ifF (by decide) rfl))))

theorem toPlain_run {base f : Nat} {h : AH} {p : Nat → Prop} {P : Pl} {cs : List Value} (hB : PlB f P) (x : PlR h p f P cs) (hb : base ≤ h.length) (hp : ∀ b, p b → b < h.length) :
    ∃ cs' h', run (Et base) 42 [.agg cs.toArray] h = some (.agg cs'.toArray, h') ∧ PlD base f (iS h.length h'.length) h' P cs' ∧ KB NoB h h' := by
  obtain ⟨a, b, g, rfl, hr, hrp, hx, ho⟩ := x
  obtain ⟨m1, m2, m3, m4, m5, m6⟩ := hB
  obtain ⟨o1, k1, q1⟩ := box_own (base := base) (t := 64) (h := h) (cs := plV a P.code.length b P.acs.length P.next g P.out.length) hb rfl
  generalize hh1 : h ++ [some (⟨plV a P.code.length b P.acs.length P.next g P.out.length, 64⟩ : Blk)] = h1 at o1 k1 q1
  obtain ⟨o2, k2, q2⟩ := box_own (base := base) (t := 70) (h := h1) (cs := plV none 0 none 0 0 none 0) (by omega) rfl
  generalize hh2 : h1 ++ [some (⟨plV none 0 none 0 0 none 0, 70⟩ : Blk)] = h2 at o2 k2 q2
  obtain ⟨o3, k3, q3⟩ := box_own (base := base) (t := 70) (h := h2) (cs := plV none 0 none 0 0 none 0) (by omega) rfl
  generalize hh3 : h2 ++ [some (⟨plV none 0 none 0 0 none 0, 70⟩ : Blk)] = h3 at o3 k3 q3
  have p3 := (o1.keepN k2).keepN k3
  have z3 := o2.keepN k3
  have k03 := kN (kN k1 k2) k3
  have nb1 : ∀ {i}, blk (at0 h.length) i → i ≠ h2.length := fun hi => by rw [blk_at0] at hi; omega
  have nb2 : ∀ {i}, blk (at0 h1.length) i → i ≠ h2.length := fun hi => by rw [blk_at0] at hi; omega
  obtain ⟨h4, e4, r4, k4, l4⟩ := toInsS_run (base := base) m1 (hr.keepN k03) (by omega)
  have n4 := k4.1
  obtain ⟨h5, e5, o5, k5, l5⟩ := (o3.keepN k4).wr0 (i := 0) (new := [.slice (at0 h3.length) P.code.length P.code.length]) (by simp) (by simp)
  have p5 := (p3.keepN k4).keepB k5 fun i hi => nb1 hi
  have z5 := (z3.keepN k4).keepB k5 fun i hi => nb2 hi
  have r5 := r4.keepB k5 fun b hb => by rw [blk_at0] at hb; omega
  have k05 : KB NoB h h5 := kFresh (kN k03 k4) k5 fun i hi => by omega
  obtain ⟨a6, h6, e6, r6, k6⟩ := toActorS_run (base := base) m3 m4 (hx.keepN k05) (by omega) (fun b hb => by have := hp b hb; omega)
  have n6 := k6.1
  obtain ⟨h7, e7, o7, k7, l7⟩ := (o5.keepN k6).wr0 (i := 1) (new := [.slice a6 P.acs.length P.acs.length]) (by simp [setAt]) (by simp)
  have p7 := (p5.keepN k6).keepB k7 fun i hi => nb1 hi
  have z7 := (z5.keepN k6).keepB k7 fun i hi => nb2 hi
  have r7 := (r5.keepN k6).keepB k7 fun b hb => by rw [blk_at0] at hb; omega
  have s7 := r6.keep (AcD.kp _ _) k7 fun b hb hk => by omega
  have k07 : KB NoB h h7 := kFresh (kN k05 k6) k7 fun i hi => by omega
  obtain ⟨h8, e8, o8, k8, l8⟩ := o7.wr0 (i := 2) (new := [.int .i64 P.next]) (by simp [setAt]) (by simp)
  have p8 := p7.keepB k8 fun i hi => nb1 hi
  have z8 := z7.keepB k8 fun i hi => nb2 hi
  have r8 := r7.keepB k8 fun b hb => by rw [blk_at0] at hb; omega
  have s8 := s7.keep (AcD.kp _ _) k8 fun b hb hk => by omega
  have k08 : KB NoB h h8 := kFresh k07 k8 fun i hi => by omega
  obtain ⟨a9, h9, e9, t9, k9⟩ := toSaidSD_run (base := base) m5 m6 (ho.keep k08 fun _ _ h => h) (by omega) (fun b hb => by have := hp b hb; omega)
  have n9 := k9.1
  obtain ⟨h10, e10, o10, k10, l10⟩ := (o8.keepN k9).wr0 (i := 3) (new := [.slice a9 P.out.length P.out.length]) (by simp [setAt]) (by simp)
  have z10 := (z8.keepN k9).keepB k10 fun i hi => nb2 hi
  have r10 := (r8.keepN k9).keepB k10 fun b hb => by rw [blk_at0] at hb; omega
  have s10 := (s8.keep (AcD.kp _ _) k9 fun _ _ h => h).keep (AcD.kp _ _) k10 fun b hb hk => by omega
  have t10 := t9.keep (SdD.kp _) k10 fun b hb hk => by omega
  have k010 : KB NoB h h10 := kFresh (kN k08 k9) k10 fun i hi => by omega
  have hset : setAt (setAt (setAt (setAt (plV none 0 none 0 0 none 0) 0 [.slice (at0 h3.length) P.code.length P.code.length]) 1 [.slice a6 P.acs.length P.acs.length]) 2 [.int .i64 P.next]) 3 [.slice a9 P.out.length P.out.length] = plV (at0 h3.length) P.code.length a6 P.acs.length P.next a9 P.out.length := rfl
  rw [hset] at o10
  obtain ⟨h11, e11, o11, k11, l11⟩ := z10.wr0 (i := 0) (new := plV (at0 h3.length) P.code.length a6 P.acs.length P.next a9 P.out.length) (by simp) (by simp)
  have hz : setAt (plV none 0 none 0 0 none 0) 0 (plV (at0 h3.length) P.code.length a6 P.acs.length P.next a9 P.out.length) = plV (at0 h3.length) P.code.length a6 P.acs.length P.next a9 P.out.length := rfl
  rw [hz] at o11
  have k011 : KB NoB h h11 := kFresh k010 k11 fun i hi => by omega
  refine ⟨plV (at0 h3.length) P.code.length a6 P.acs.length P.next a9 P.out.length, h11, r42 (lets fun y ey => ?_), ⟨at0 h3.length, a6, a9, (· = h3.length), iS h5.length h6.length, iS h8.length h9.length, rfl, r10.keepB k11 fun b hb => by rw [blk_at0] at hb; omega, fun b hb => by rw [blk_at0] at hb; exact hb, s10.keep (AcD.kp _ _) k11 fun b hb hk => by omega, t10.keep (SdD.kp _) k11 fun b hb hk => by omega, fun b hb => by constructor <;> omega, fun b hb => by constructor <;> omega, fun b hb => by constructor <;> omega, fun b h1 h2 => by omega, fun b h1 h2 => by omega, fun b h1 h2 => by omega⟩, k011⟩
  rw [hh1] at ey
  rw [ey]
  refine lets fun y ey => ?_
  rw [hh2] at ey
  rw [ey]
  refine lets fun y ey => ?_
  rw [hh3] at ey
  rw [ey]
  refine bS (p3.at0 (i := 0) rfl) (bs e4 (bS rfl (bs e5 (bS (p5.at0 (i := 1) rfl) (bs e6 (bS rfl (bs e7 ?_)))))))
  refine bI (p7.at0 (i := 2) rfl) (bs e8 (bS (p8.at0 (i := 3) rfl) (bs e9 (bS rfl (bs e10 ?_)))))
  refine bS (o10.at0 (i := 0) rfl) (bS (o10.at0 (i := 1) rfl) (bI (o10.at0 (i := 2) rfl) (bS (o10.at0 (i := 3) rfl) (bs e11 ?_))))
  exact bS (o11.at0 (i := 0) rfl) (bS (o11.at0 (i := 1) rfl) (bI (o11.at0 (i := 2) rfl) (bS (o11.at0 (i := 3) rfl) rfl)))
end Go.Proofs.Ytnmjhhipbfngkaa.Am
