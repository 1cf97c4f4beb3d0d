/- Rows of actors: counted, copied, compared.
Conditions: none. -/
import Derived.Test.YtnmjhhipbfngkaaAo3
set_option linter.unusedSimpArgs false
set_option linter.unusedVariables false
namespace Go.Proofs.Ytnmjhhipbfngkaa.Am
open Go Go.RowKit

/-- A row of actors that can be read. -/
def AsR (h : AH) (p : Nat → Prop) (f : Nat) (l : List Ac) (a : Option Addr) : Prop :=
  ∃ vs, Sl h a vs ∧ (vs = [] ∨ ∀ b, blk a b → p b) ∧ vs.length = l.length * 5 ∧ ∀ i x, l[i]? = some x → AcR h p f x (chunk 5 i vs)
theorem AsR.keep {h h' : AH} {p S : Nat → Prop} (k : KB S h h') (hp : ∀ b, p b → ¬ S b) {f : Nat} {l : List Ac} {a : Option Addr} (x : AsR h p f l a) : AsR h' p f l a := by
  obtain ⟨vs, h4, h5, h6, h7⟩ := x
  refine ⟨vs, ?_, h5, h6, fun i t hi => (h7 i t hi).keep k hp⟩
  rcases h5 with e | h5
  · exact .inl e
  · exact h4.keep k fun b hb hs => hp b (h5 b hb) hs
theorem AsR.keepN {h h' : AH} {p : Nat → Prop} (k : KB NoB h h') {f : Nat} {l : List Ac} {a : Option Addr} (x : AsR h p f l a) : AsR h' p f l a := x.keep k fun _ _ h => h
theorem AcR.mono {h : AH} {p q : Nat → Prop} (hpq : ∀ b, p b → q b) {f : Nat} {A : Ac} {cs : List Value} (x : AcR h p f A cs) : AcR h q f A cs := by
  obtain ⟨a, b, g, e, h1, h2, h3, h4⟩ := x
  exact ⟨a, b, g, e, h1.mono hpq, h2.mono hpq, h3, h4.imp id fun k y hy => hpq y (k y hy)⟩
theorem RowD.asR {base f : Nat} {S : Fp} {h : AH} {l : List Ac} {a : Option Addr} (x : RowD 5 (AcD base f) S h l a) : AsR h S f l a := by
  obtain ⟨vs, T, x1, x2, x3, x4, C, c1, c2, c3⟩ := x
  exact ⟨vs, x1, x3.imp id fun g b hb => (g b hb).1, x2, fun i t hi => (c3 i t hi).acR.mono fun b hb => x4 b (c1 i b hb)⟩
theorem AsR.get {h : AH} {p : Nat → Prop} {f : Nat} {l : List Ac} {al : Option Addr} (x : AsR h p f l al) {i : Nat} (hi : i < l.length) :
    ∃ ad a b g, al = some ad ∧ ad.block < h.length ∧ Am.cell h ad.block (ad.off + i * 5) = some (.int .i64 l[i].pid) ∧ Am.cell h ad.block (ad.off + i * 5 + 1) = some (.int .i64 l[i].pc) ∧ Am.cell h ad.block (ad.off + i * 5 + 1 + 1) = some (.slice a l[i].regs.length l[i].regs.length) ∧
      Am.cell h ad.block (ad.off + i * 5 + 1 + 1 + 1) = some (.slice b l[i].box.length l[i].box.length) ∧ Am.cell h ad.block (ad.off + i * 5 + 1 + 1 + 1 + 1) = some (.slice g l[i].links.length l[i].links.length) ∧
      AcR h p f l[i] (acV l[i].pid l[i].pc a l[i].regs.length b l[i].box.length g l[i].links.length) ∧ Sl h g (iv .i64 l[i].links) := by
  obtain ⟨vs, h4, h5, h6, h7⟩ := x
  have hlt : i * 5 + 4 < vs.length := by omega
  have hm := h7 i l[i] (List.getElem?_eq_getElem hi)
  obtain ⟨a, b, g, ecs, q1, q2, q3, q4⟩ := hm
  have each : ∀ (j : Nat) (v : Value), (acV l[i].pid l[i].pc a l[i].regs.length b l[i].box.length g l[i].links.length)[j]? = some v → vs[i * 5 + j]? = some v := by
    intro j v hv
    have hj : j < 5 := by have := (List.getElem?_eq_some_iff.1 hv).1; simpa using this
    rw [← ecs] at hv
    unfold chunk at hv
    rw [List.getElem?_take_of_lt hj, List.getElem?_drop] at hv
    exact hv
  rcases h4 with e | ⟨ad, kk, e1, e2, e3, e4⟩
  · subst e; simp at hlt
  · have c : ∀ (j : Nat) (v : Value), (acV l[i].pid l[i].pc a l[i].regs.length b l[i].box.length g l[i].links.length)[j]? = some v → Am.cell h ad.block (ad.off + i * 5 + j) = some v := by
      intro j v hv
      have := e4 _ _ (each j v hv)
      rw [Nat.add_assoc]
      simp [Am.cell, e2, this]
    exact ⟨ad, a, b, g, e1, hget_lt e2, c 0 _ rfl, c 1 _ rfl, c 2 _ rfl, c 3 _ rfl, c 4 _ rfl, ⟨a, b, g, rfl, q1, q2, q3, q4⟩, q3⟩

/-- How many entries an actor counts. -/
def acnt (f : Nat) (A : Ac) : Nat := A.regs.length + sumL (tcnt f) A.regs + (A.box.length + sumL (tcnt f) A.box) + A.links.length
theorem szActorS_loop {base f : Nat} {p : Nat → Prop} {l : List Ac} {a : Option Addr} (hl : l.length ≤ 1048576) (hM : ∀ x ∈ l, AcM x) : ∀ (d i : Nat) (h : AH) (left : Int), i + d = l.length → AsR h p f l a → base ≤ h.length → (∀ b, p b → b < h.length) → 0 ≤ left → left ≤ 1048576 →
    ∃ e z h', loopL (B95_0 base) [some (.slice a l.length l.length), some (.int .i64 left), some (.int .i64 (i : Int))] h = some (e, [some (.int .i64 z)], h') ∧ (e = 1 ∨ e = 2) ∧ KB NoB h h' ∧ z ≤ left ∧ -1 ≤ z ∧ (¬ z < 0 → (∀ j x, i ≤ j → l[j]? = some x → AcB f x) ∧ z + (sumL (acnt f) (l.drop i) : Int) ≤ left) := by
  intro d
  induction d with
  | zero =>
    intro i h left hi hs hb hp h0 h1
    refine ⟨2, left, h, ?_, .inr rfl, KB.refl _ _, Int.le_refl _, by omega, fun _ => ⟨fun j t hj hjt => ?_, by rw [show l.drop i = [] from List.drop_eq_nil_of_le (by omega)]; simp [sumL]⟩⟩
    · refine loop_off (by decide) ?_
      rw [B95_0_eq]
      exact ifF (by simp; omega) rfl
    · have := (List.getElem?_eq_some_iff.1 hjt).1; omega
  | succ d ihd =>
    intro i h left hi hs hb hp h0 h1
    have hlt : i < l.length := by omega
    obtain ⟨ad, x1, x2, x3, rfl, hbl, g0, g1, g2, g3, g4, hm, _⟩ := hs.get hlt
    obtain ⟨z, h', e1, k1, z1, z2, z3⟩ := szActor_run (base := base) (hM _ (List.getElem_mem hlt)) hm hb hp h0 h1
    have step : ∀ r, (if (decide (z < (0 : Int))) = true then
        some (1, [some (Value.int .i64 (-1 : Int))], h')
      else
        some (0, [some (.slice (some ad) l.length l.length), some (.int .i64 z), some (.int .i64 (IntKind.wrap .i64 ((i : Int) + (1 : Int))))], h')) = some r →
        B95_0 base [some (.slice (some ad) l.length l.length), some (.int .i64 left), some (.int .i64 (i : Int))] h = some r := by
      intro r hr
      rw [B95_0_eq]
      refine ifT (decide_eq_true (by omega)) (ifT ⟨by omega, by omega⟩ (bs rfl ?_))
      simp only [Int.toNat_natCast]
      refine bI g0 (bI g1 (bS g2 (bS g3 (bS g4 ?_))))
      exact bs e1 (bI rfl hr)
    by_cases hz : z < 0
    · exact ⟨1, -1, h', loop_off (by decide) (step _ (ifT (decide_eq_true hz) rfl)), .inl rfl, k1, by omega, by omega, fun h => absurd (by decide) h⟩
    · obtain ⟨e, zz, h'', m1, m2, m3, m4, m5, m6⟩ := ihd (i + 1) h' z (by omega) (hs.keep k1 fun _ _ h => h) (by have := k1.1; omega) (fun b hbp => by have := hp b hbp; have := k1.1; omega) (by omega) (by omega)
      refine ⟨e, zz, h'', ?_, m2, kN k1 m3, by omega, m5, fun hzz => ⟨fun j t hj hjt => ?_, by rw [sumL_drop _ hlt]; have := (m6 hzz).2; have := (z3 hz).2; unfold acnt at *; omega⟩⟩
      · refine loop_on (step _ (ifF (by simpa using hz) rfl)) ?_
        rw [w64i (by omega) (by omega)]
        exact m1
      · by_cases hji : j = i
        · subst hji
          rw [List.getElem?_eq_getElem hlt] at hjt
          injection hjt with hjt
          rw [← hjt]
          exact (z3 hz).1
        · exact (m6 hzz).1 j t (by omega) hjt
theorem szActorS_run {base f : Nat} {p : Nat → Prop} {h : AH} {l : List Ac} {a : Option Addr} {left : Int} (hl : l.length ≤ 9223372036854775807) (hM : ∀ x ∈ l, AcM x) (hs : AsR h p f l a) (hb : base ≤ h.length) (hp : ∀ b, p b → b < h.length) (h0 : 0 ≤ left) (h1 : left ≤ 1048576) :
    ∃ z h', run (Et base) 95 [.slice a l.length l.length, .int .i64 left] h = some (.int .i64 z, h') ∧ KB NoB h h' ∧ z ≤ left ∧ -1 ≤ z ∧ (¬ z < 0 → l.length ≤ 1048576 ∧ (∀ x ∈ l, AcB f x) ∧ z + ((l.length + sumL (acnt f) l : Nat) : Int) ≤ left) := by
  by_cases c : left - (l.length : Int) < 0
  · refine ⟨-1, h, r95 ?_, KB.refl _ _, by omega, by omega, fun h => absurd (by decide) h⟩
    rw [w64i (by omega) (by omega)]
    exact ifT (decide_eq_true c) rfl
  · obtain ⟨e, z, h2, m1, m2, m3, m4, m5, m6⟩ := szActorS_loop (base := base) (f := f) (by omega) hM l.length 0 h (left - l.length) (by omega) hs hb hp (by omega) (by omega)
    refine ⟨z, h2, r95 ?_, m3, by omega, m5, fun hz => ⟨by omega, fun x hx => ?_, by have := (m6 hz).2; simp only [List.drop_zero] at this; omega⟩⟩
    · rw [w64i (by omega) (by omega)]
      rw [show ((0 : Nat) : Int) = 0 from rfl] at m1
      refine ifF (by simpa using c) (bs m1 ?_)
      rcases m2 with rfl | rfl
      · exact ifT rfl (bI rfl rfl)
      · exact ifF (by simp) (ifT rfl (bI rfl rfl))
    · obtain ⟨j, hj, rfl⟩ := List.mem_iff_getElem.1 hx
      exact (m6 hz).1 j _ (by omega) (List.getElem?_eq_getElem hj)

theorem eqActorS_loop {base f f2 : Nat} {p p2 : Nat → Prop} {l : List Ac} {a a2 : Option Addr} (hl : l.length ≤ 9223372036854775807) (hL : ∀ x ∈ l, x.Le) : ∀ (d i : Nat) (h : AH), i + d = l.length → AsR h p f l a → AsR h p2 f2 l a2 → base ≤ h.length →
    ∃ h', loopL (B104_0 base) [some (.slice a l.length l.length), some (.slice a2 l.length l.length), some (.int .i64 (i : Int))] h = some (2, [], h') ∧ KB NoB h h' := by
  intro d
  induction d with
  | zero =>
    intro i h hi hs hs2 hb
    refine ⟨h, ?_, KB.refl _ _⟩
    refine loop_off (by decide) ?_
    rw [B104_0_eq]
    exact ifF (by simp; omega) rfl
  | succ d ihd =>
    intro i h hi hs hs2 hb
    have hlt : i < l.length := by omega
    obtain ⟨ad, x1, x2, x3, rfl, _, g0, g1, g2, g3, g4, hm, _⟩ := hs.get hlt
    obtain ⟨ad2, u1, u2, u3, rfl, _, y0, y1, y2, y3, y4, hm2, _⟩ := hs2.get hlt
    obtain ⟨h1, e1, k1⟩ := eqActor_run (base := base) (hL _ (List.getElem_mem hlt)) hm hm2 hb
    obtain ⟨h2, m1, q2⟩ := ihd (i + 1) h1 (by omega) (hs.keep k1 fun _ _ h => h) (hs2.keep k1 fun _ _ h => h) (by have := k1.1; omega)
    refine ⟨h2, loop_on ?_ m1, kN k1 q2⟩
    rw [B104_0_eq]
    refine ifT (decide_eq_true (by omega)) (ifT ⟨by omega, by omega⟩ (bs rfl ?_))
    simp only [Int.toNat_natCast]
    refine bI g0 (bI g1 (bS g2 (bS g3 (bS g4 (ifT ⟨by omega, by omega⟩ (bs rfl ?_))))))
    refine bI y0 (bI y1 (bS y2 (bS y3 (bS y4 (bs e1 (bB rfl (ifF (by decide) ?_)))))))
    rw [w64i (n := (i : Int) + 1) (by omega) (by omega)]
    rfl
theorem eqActorS_run {base f f2 : Nat} {h : AH} {p p2 : Nat → Prop} {l : List Ac} {a a2 : Option Addr} (hl : l.length ≤ 9223372036854775807) (hL : ∀ x ∈ l, x.Le) (hs : AsR h p f l a) (hs2 : AsR h p2 f2 l a2) (hb : base ≤ h.length) :
    ∃ h', run (Et base) 104 [.slice a l.length l.length, .slice a2 l.length l.length] h = some (.bool true, h') ∧ KB NoB h h' := by
  obtain ⟨h', e, k⟩ := eqActorS_loop (base := base) hl hL l.length 0 h (by omega) hs hs2 hb
  refine ⟨h', r104 (ifF (by simp) ?_), k⟩
  rw [show ((0 : Nat) : Int) = 0 from rfl] at e
  exact bs e (ifF (by simp) (ifT rfl rfl))

theorem toActorS_loop {base f : Nat} {p : Nat → Prop} {l : List Ac} {a : Option Addr} {ob : Nat} (hl : l.length ≤ 1048576) (hB : ∀ x ∈ l, AcB f x) (hp : ∀ b, p b → b < ob) : ∀ (d i : Nat) (h : AH) (vs : List Value), i + d = l.length → AsR h p f l a → ob < h.length → base ≤ h.length → Own base 29 h (at0 ob) vs → vs.length = l.length * 5 →
    Chunks 5 (AcD base f) (iS (ob + 1) h.length) h (l.take i) vs →
    ∃ h' vs', loopL (B99_0 base) [some (.slice a l.length l.length), some (.slice (at0 ob) l.length l.length), some (.int .i64 (i : Int))] h = some (2, [some (.slice (at0 ob) l.length l.length)], h') ∧ Own base 29 h' (at0 ob) vs' ∧ vs'.length = l.length * 5 ∧
      Chunks 5 (AcD base f) (iS (ob + 1) h'.length) h' l vs' ∧ KB (· = ob) h h' := by
  intro d
  induction d with
  | zero =>
    intro i h vs hi hs ho hb ow hv hd
    rw [List.take_of_length_le (by omega)] at hd
    refine ⟨h, vs, ?_, ow, hv, hd, KB.refl _ _⟩
    refine loop_off (by decide) ?_
    rw [B99_0_eq]
    exact ifF (by simp; omega) rfl
  | succ d ihd =>
    intro i h vs hi hs ho hb ow hv hd
    have hlt : i < l.length := by omega
    obtain ⟨ad, x1, x2, x3, rfl, hbl, g0, g1, g2, g3, g4, hm, _⟩ := hs.get hlt
    obtain ⟨cs', h1, e1, m1, k1⟩ := toActor_run (base := base) (hB _ (List.getElem_mem hlt)) hm hb (fun b hbp => by have := hp b hbp; omega)
    have n1 := k1.1
    obtain ⟨p5, c5, a5, n5, b5, m5, g5, q5, rfl⟩ := m1.form
    obtain ⟨h2, w1, w2, w3, w4⟩ := (ow.keepN k1).wr0 (i := i * 5) (new := acV p5 c5 a5 n5 b5 m5 g5 q5) (by simp; omega) (by simp)
    have kall : KB (· = ob) h h2 := kNB k1 w3
    have m2 := AcD.kp base f _ _ _ _ l[i] (acV p5 c5 a5 n5 b5 m5 g5 q5) w3 (fun b (hb' : iS h.length h1.length b) e => by omega) m1
    have ch := (hd.keep (AcD.kp _ _) kall fun b hb' e => by omega).snoc (vs' := setAt vs (i * 5) (acV p5 c5 a5 n5 b5 m5 g5 q5)) (S' := iS (ob + 1) h2.length) m2 (fun b hb' hc => by omega) (fun b hb' => by constructor <;> omega) (fun b hb' => by constructor <;> omega) (fun q hq => chunk_setAt_other rfl (by omega) (by simp at hq; omega)) (by
      rw [List.length_take, Nat.min_eq_left (by omega)]
      exact chunk_setAt_self rfl (by omega))
    rw [← take_snoc hlt] at ch
    obtain ⟨h3, vs3, y1, y2, y3, y4, y5⟩ := ihd (i + 1) h2 (setAt vs (i * 5) (acV p5 c5 a5 n5 b5 m5 g5 q5)) (by omega) (hs.keep kall fun b h1 h2 => by have := hp b h1; omega) (by omega) (by omega) w2 (by simp [setAt]; omega) ch
    refine ⟨h3, vs3, ?_, y2, y3, y4, KB.trans kall y5 (fun _ _ h => h) (fun _ _ h => h)⟩
    refine loop_on ?_ y1
    rw [B99_0_eq]
    refine ifT (decide_eq_true (by omega)) (ifT ⟨by omega, by omega⟩ (bs rfl ?_))
    simp only [Int.toNat_natCast]
    refine bI g0 (bI g1 (bS g2 (bS g3 (bS g4 ?_))))
    refine bs e1 ?_
    refine bs (v := acV p5 c5 a5 n5 b5 m5 g5 q5) rfl (bI rfl (bI rfl (bS rfl (bS rfl (bS rfl ?_)))))
    refine ifT ⟨by omega, by omega⟩ (bs rfl ?_)
    have w1' : Am.wr base h1 ob (0 + i * 5) (acV p5 c5 a5 n5 b5 m5 g5 q5) = some h2 := by rw [Nat.zero_add]; exact w1
    refine bs w1' ?_
    rw [w64i (n := (i : Int) + 1) (by omega) (by omega)]
    rfl
theorem rep_len5 (z0 z1 z2 z3 z4 : Value) : ∀ n, (rep [z0, z1, z2, z3, z4] n).length = n * 5
  | 0 => rfl
  | n + 1 => by simp only [rep, List.length_append, rep_len5 z0 z1 z2 z3 z4 n]; simp; omega
theorem toActorS_run {base f : Nat} {h : AH} {p : Nat → Prop} {l : List Ac} {a : Option Addr} (hl : l.length ≤ 1048576) (hB : ∀ x ∈ l, AcB f x) (hs : AsR h p f l a) (hb : base ≤ h.length) (hp : ∀ b, p b → b < h.length) :
    ∃ a' h', run (Et base) 99 [.slice a l.length l.length] h = some (.slice a' l.length l.length, h') ∧ RowD 5 (AcD base f) (iS h.length h'.length) h' l a' ∧ KB NoB h h' := by
  obtain ⟨o1, k1, q1⟩ := box_own (base := base) (t := 29) (h := h) (cs := rep [(.int .i64 0), (.int .i64 0), (.slice none 0 0), (.slice none 0 0), (.slice none 0 0)] l.length) hb rfl
  generalize hh1 : h ++ [some (⟨rep [(.int .i64 0), (.int .i64 0), (.slice none 0 0), (.slice none 0 0), (.slice none 0 0)] l.length, 29⟩ : Blk)] = h1 at o1 k1 q1
  obtain ⟨h2, vs2, e2, o2, v2, m2, k2⟩ := toActorS_loop (base := base) (p := p) (ob := h.length) hl hB hp l.length 0 h1 _ (by omega) (hs.keep k1 fun _ _ h => h) (by omega) (by omega) o1 (rep_len5 ..) Chunks.nil
  have n2 := k2.1
  refine ⟨at0 h.length, h2, r99 ?_, ⟨vs2, iS (h.length + 1) h2.length, o2.sl, v2, .inr fun b hb' => by rw [blk_at0] at hb'; subst hb'; exact ⟨by constructor <;> omega, by omega⟩, fun b hb' => by constructor <;> omega, m2⟩, KB.trans k1 k2 (fun _ _ h => h) (fun i hi h => by omega)⟩
  refine ifT ⟨rfl, by omega, by omega, by omega⟩ (lets fun h1' eh => ?_)
  simp only [Int.toNat_natCast] at eh ⊢
  rw [hh1] at eh
  subst eh
  rw [show ((0 : Nat) : Int) = 0 from rfl] at e2
  exact bs e2 (ifT rfl (bS rfl rfl))
end Go.Proofs.Ytnmjhhipbfngkaa.Am
