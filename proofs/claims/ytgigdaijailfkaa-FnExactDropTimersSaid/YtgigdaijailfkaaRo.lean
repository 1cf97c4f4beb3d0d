/- RootsOf: both give the words of the registers and of the box.
Conditions: none. -/
import Derived.Test.YtgigdaijailfkaaIy
set_option linter.unusedSimpArgs false
set_option linter.unusedVariables false
namespace Go.Proofs.Ytgigdaijailfkaa.Am
open Go Go.RowKit

theorem lets {α β : Type} {x : α} {f : α → Option β} {r : Option β} (h : ∀ y, y = x → f y = r) : (some x).bind f = r := h x rfl
abbrev at0 (b : Nat) : Option Addr := some ⟨b, 0, none⟩
theorem blk_at0 {b x : Nat} : blk (at0 b) x ↔ x = b := ⟨fun ⟨ad, e, h⟩ => by injection e with e; subst e; exact h.symm, fun e => ⟨_, rfl, e.symm⟩⟩
theorem box_own {base t : Nat} {h h1 : AH} {cs : List Value} (hb : base ≤ h.length) (e : h1 = h ++ [some ⟨cs, t⟩]) : Own base t h1 (at0 h.length) cs ∧ KB NoB h h1 ∧ h1.length = h.length + 1 := by
  subst e
  exact ⟨Own.new base t h cs hb, KB.push _ _ _, by simp⟩
theorem Own.at0 {base t : Nat} {h : AH} {b : Nat} {vs : List Value} (x : Own base t h (at0 b) vs) {i : Nat} {v : Value} (hi : vs[i]? = some v) : Am.cell h b i = some v := by
  obtain ⟨ad, e, hc⟩ := x.sl.cell hi
  injection e with e
  subst e
  simpa using hc
theorem Own.wr0 {base t : Nat} {h : AH} {b : Nat} {vs : List Value} (x : Own base t h (Am.at0 b) vs) {i : Nat} {new : List Value} (hi : i + new.length ≤ vs.length) (h0 : 0 < new.length) :
    ∃ h', Am.wr base h b i new = some h' ∧ Own base t h' (Am.at0 b) (setAt vs i new) ∧ KB (· = b) h h' ∧ h'.length = h.length := by
  obtain ⟨ad, h', e, h1, h2, h3, h4⟩ := x.wr hi h0
  injection e with e
  subst e
  refine ⟨h', by simpa using h1, h2, h3.mono fun i _ hb => blk_at0.1 hb, h4⟩
theorem Own.keepN {base t : Nat} {h h' : AH} {a : Option Addr} {vs : List Value} (x : Own base t h a vs) (k : KB NoB h h') : Own base t h' a vs := x.keep k fun _ _ h => h.elim
theorem Sl.keepN {h h' : AH} {a : Option Addr} {vs : List Value} (x : Sl h a vs) (k : KB NoB h h') : Sl h' a vs := x.keep k fun _ _ h => h.elim
theorem Own.keepB {base t b : Nat} {h h' : AH} {a : Option Addr} {vs : List Value} (x : Own base t h a vs) (k : KB (· = b) h h') (hb : ∀ i, blk a i → i ≠ b) : Own base t h' a vs := x.keep k fun i h1 h2 => hb i h1 h2
/-- A row that is there lies below; a block behind leaves it alone. -/
theorem Sl.keepB {b : Nat} {h0 h h' : AH} {a : Option Addr} {vs : List Value} (x : Sl h a vs) (k : KB (· = b) h h') (hb : vs = [] ∨ ∀ i, blk a i → i ≠ b) : Sl h' a vs := by
  rcases hb with e | hb
  · exact .inl e
  · exact x.keep k fun i h1 h2 => hb i h1 h2
theorem sl_below {h : AH} {a : Option Addr} {vs : List Value} (x : Sl h a vs) : vs = [] ∨ ∀ i, blk a i → i < h.length := by
  by_cases e : vs = []
  · exact .inl e
  · exact .inr fun i hi => by
      rcases x with h | ⟨ad, k, h1, h2, _⟩
      · exact absurd h e
      · obtain ⟨ad', e1, e2⟩ := hi
        rw [h1] at e1
        injection e1 with e1
        subst e1; subst e2
        exact hget_lt h2

abbrev cellV (p pc : Int) (r b l : Option Addr) (R B L : List Int) (at_ : Int) : List Value :=
  [.int .i64 p, .int .i64 pc, .slice r R.length R.length, .slice b B.length B.length, .slice l L.length L.length, .int .i64 at_]

theorem szIntS_run {base : Nat} {h : AH} {a : Option Addr} {n : Nat} {k : Int} (hk : -9223372036854775808 ≤ k - n) (hk2 : k - n ≤ 9223372036854775807) :
    run (Et base) 63 [.slice a n n, .int .i64 k] h = some (.int .i64 (if k - n < 0 then -1 else k - n), h) := by
  refine r63 ?_
  rw [w64i hk hk2]
  by_cases hc : k - (n : Int) < 0 <;> simp [hc]

theorem szCell_run {base : Nat} {h : AH} {p pc at_ : Int} {r b l : Option Addr} {R B L : List Int} (hb : base ≤ h.length) (hR : R.length ≤ 9223372036854775807) (hB : B.length ≤ 9223372036854775807) (hL : L.length ≤ 9223372036854775807) :
    ∃ z h', run (Et base) 23 [.agg (cellV p pc r b l R B L at_).toArray, .int .i64 1048576] h = some (.int .i64 z, h') ∧ KB NoB h h' ∧ (¬ z < 0 → R.length ≤ 1048576 ∧ B.length ≤ 1048576 ∧ L.length ≤ 1048576) := by
  obtain ⟨o1, k1, l1⟩ := box_own (base := base) (t := 32) (h := h) (cs := cellV p pc r b l R B L at_) hb rfl
  have e1 := szIntS_run (base := base) (h := h ++ [some ⟨cellV p pc r b l R B L at_, 32⟩]) (a := r) (n := R.length) (k := 1048576) (by omega) (by omega)
  by_cases c1 : (1048576 : Int) - R.length < 0
  · rw [if_pos c1] at e1
    refine ⟨-1, _, r23 (lets fun h1 eh => ?_), k1, fun h => absurd (by decide) h⟩
    subst eh
    rw [o1.at0 (i := 2) rfl]
    simp only [Option.bind_some, getS, e1, getI, if_true]
    simp
  · rw [if_neg c1] at e1
    have e2 := szIntS_run (base := base) (h := h ++ [some ⟨cellV p pc r b l R B L at_, 32⟩]) (a := b) (n := B.length) (k := 1048576 - R.length) (by omega) (by omega)
    by_cases c2 : (1048576 : Int) - R.length - B.length < 0
    · rw [if_pos c2] at e2
      refine ⟨-1, _, r23 (lets fun h1 eh => ?_), k1, fun h => absurd (by decide) h⟩
      subst eh
      rw [o1.at0 (i := 2) rfl]
      simp only [Option.bind_some, getS, e1, getI, if_true, c1, decide_false, Bool.false_eq_true, if_false]
      rw [o1.at0 (i := 3) rfl]
      simp only [Option.bind_some, getS, e2, getI, if_true]
      simp
    · rw [if_neg c2] at e2
      have e3 := szIntS_run (base := base) (h := h ++ [some ⟨cellV p pc r b l R B L at_, 32⟩]) (a := l) (n := L.length) (k := 1048576 - R.length - B.length) (by omega) (by omega)
      refine ⟨if (1048576 : Int) - R.length - B.length - L.length < 0 then -1 else (1048576 : Int) - R.length - B.length - L.length, _, r23 (lets fun h1 eh => ?_), k1, fun h => ?_⟩
      · subst eh
        rw [o1.at0 (i := 2) rfl]
        simp only [Option.bind_some, getS, e1, getI, if_true, c1, decide_false, Bool.false_eq_true, if_false]
        rw [o1.at0 (i := 3) rfl]
        simp only [Option.bind_some, getS, e2, getI, if_true, c2, decide_false, Bool.false_eq_true, if_false]
        rw [o1.at0 (i := 4) rfl]
        simp only [Option.bind_some, getS, e3, getI, if_true]
        by_cases c3 : (1048576 : Int) - R.length - B.length - L.length < 0 <;> simp [c3]
      · by_cases c3 : (1048576 : Int) - R.length - B.length - L.length < 0
        · rw [if_pos c3] at h; exact absurd (by decide) h
        · omega

/-- impl.copyInts -/
theorem copyInts_run {base : Nat} {h : AH} {a : Option Addr} {xs : List Int} (hs : Sl h a (iv .i64 xs)) (hl : xs.length ≤ 1048576 * 4) (hb : base ≤ h.length) :
    ∃ a' h', run (Et base) 65 [.slice a xs.length xs.length] h = some (.slice a' xs.length xs.length, h') ∧ Own base 3 h' a' (iv .i64 xs) ∧ KB NoB h h' ∧ (∀ b, blk a' b → h.length ≤ b) := by
  have hr : rawAt h a (xs.length * 1) = some (iv .i64 xs) := by
    have := hs.raw (iv_leaf _ _)
    simpa using this
  obtain ⟨a1, h1, g1, g2, g3, g4⟩ := Own.app (base := base) (t := 3) (sz := 1) (bytes := 8) (h := h) (a := none) (olds := []) (.inl ⟨rfl, rfl⟩) (n := 0) (m := xs.length) (by simp) (by omega) hr hb (by omega) (by omega) (by simp)
  simp only [List.nil_append, Nat.zero_add] at g1 g2
  refine ⟨a1, h1, r65 ?_, g2, g3.mono (fun i hi ⟨ad, e, _⟩ => by cases e), fun b hb' => ?_⟩
  · rw [g1]
    simp [getS]
  · rcases g4 with ⟨_, rfl, _⟩ | g4
    · obtain ⟨ad, e, _⟩ := hb'; cases e
    · have := g4 b hb'; omega

theorem gate_pos {R : Type} {p : Prop} {x : Option R} (h : p) : gate p x = x := by unfold gate; rw [if_pos h]

theorem implRoots_run {base : Nat} {h : AH} {p pc at_ : Int} {r b l : Option Addr} {R B L : List Int} (sr : Sl h r (iv .i64 R)) (sb : Sl h b (iv .i64 B)) (hb : base ≤ h.length) (hR : R.length ≤ 1048576) (hB : B.length ≤ 1048576) :
    ∃ a h', run (Et base) 26 [.agg (cellV p pc r b l R B L at_).toArray] h = some (.slice a (R ++ B).length (R ++ B).length, h') ∧ Own base 3 h' a (iv .i64 (R ++ B)) ∧ KB NoB h h' ∧ (∀ x, blk a x → h.length ≤ x) := by
  obtain ⟨o1, k1, l1⟩ := box_own (base := base) (t := 35) (h := h) (cs := cellV p pc r b l R B L at_) hb rfl
  obtain ⟨a2, h2, e2, o2, k2, f2⟩ := copyInts_run (base := base) (sr.keepN k1) (by omega) (by omega)
  have o1' := o1.keepN k2
  have hraw : rawAt h2 b (B.length * 1) = some (iv .i64 B) := by
    have := ((sb.keepN k1).keepN k2).raw (iv_leaf _ _)
    simpa using this
  obtain ⟨a3, h3, e3, o3, k3, f3⟩ := o2.app (n := R.length) (m := B.length) (sz := 1) (bytes := 8) (by simp) (by omega) hraw (by have := k2.1; omega) (by omega) (by omega) (by simp)
  rw [iv_append] at o3
  have hl2 := k2.1
  refine ⟨a3, h3, r26 (lets fun h1 eh => ?_), o3, KB.trans (KB.trans k1 k2 (fun _ _ h => h) (fun _ _ h => h)) k3 (fun _ _ h => h) (fun i hi hx => by have := f2 i hx; omega), fun x hx => ?_⟩
  · subst eh
    rw [o1.at0 (i := 2) rfl]
    simp only [Option.bind_some, getS, e2]
    rw [gate_pos, o1'.at0 (i := 3) rfl]
    · simp only [Option.bind_some, getS, e3]
      simp
    · intro ad had
      injection had with had
      subst had
      have hk : hget h2 h.length = hget (h ++ [some ⟨cellV p pc r b l R B L at_, 35⟩]) h.length := k2.2 _ (by omega) (fun h => h)
      exact ⟨fun j hj => by simp only [Am.cell, hk], by rw [hk]⟩
  · rcases f3 with ⟨_, rfl, _⟩ | f3
    · have := f2 x hx; omega
    · have := f3 x hx; omega

theorem specRoots_run {base : Nat} {h : AH} {p pc at_ : Int} {r b l : Option Addr} {R B L : List Int} (sr : Sl h r (iv .i64 R)) (sb : Sl h b (iv .i64 B)) (hb : base ≤ h.length) (hR : R.length ≤ 1048576) (hB : B.length ≤ 1048576) :
    ∃ a h', run (Et base) 24 [.agg (cellV p pc r b l R B L at_).toArray] h = some (.slice a (R ++ B).length (R ++ B).length, h') ∧ Own base 3 h' a (iv .i64 (R ++ B)) ∧ KB NoB h h' ∧ (∀ x, blk a x → h.length ≤ x) := by
  obtain ⟨o1, k1, l1⟩ := box_own (base := base) (t := 35) (h := h) (cs := cellV p pc r b l R B L at_) hb rfl
  generalize hh1 : h ++ [some (⟨cellV p pc r b l R B L at_, 35⟩ : Blk)] = h1 at o1 k1 l1
  obtain ⟨o2, k2, l2⟩ := box_own (base := base) (t := 3) (h := h1) (cs := []) (by omega) rfl
  generalize hh2 : h1 ++ [some (⟨[], 3⟩ : Blk)] = h2 at o2 k2 l2
  have hraw : rawAt h2 r (R.length * 1) = some (iv .i64 R) := by
    have := ((sr.keepN k1).keepN k2).raw (iv_leaf _ _)
    simpa using this
  obtain ⟨a3, h3, e3, o3, k3, f3⟩ := o2.app (n := 0) (m := R.length) (sz := 1) (bytes := 8) (by simp) (by omega) hraw (by omega) (by omega) (by omega) (by simp)
  simp only [List.nil_append, Nat.zero_add] at e3 o3
  have l3 := k3.1
  have o1'' := (o1.keepN k2).keep k3 fun i h1 h2 => by rw [blk_at0] at h1 h2; omega
  have low : ∀ x, blk a3 x → h1.length ≤ x := by
    intro x hx
    rcases f3 with ⟨_, rfl, _⟩ | f3
    · rw [blk_at0] at hx; omega
    · have := f3 x hx; omega
  have keepS : ∀ {a : Option Addr} {vs : List Value}, Sl h a vs → Sl h3 a vs := by
    intro a vs s
    rcases sl_below s with e | hlt
    · exact .inl e
    · exact ((s.keepN k1).keepN k2).keep k3 fun i h1 h2 => by have := hlt i h1; rw [blk_at0] at h2; omega
  have hraw2 : rawAt h3 b (B.length * 1) = some (iv .i64 B) := by
    have := (keepS sb).raw (iv_leaf _ _)
    simpa using this
  obtain ⟨a4, h4, e4, o4, k4, f4⟩ := o3.app (n := R.length) (m := B.length) (sz := 1) (bytes := 8) (by simp) (by omega) hraw2 (by omega) (by omega) (by omega) (by simp)
  rw [iv_append] at o4
  refine ⟨a4, h4, r24 (lets fun h1' eh => ?_), o4, KB.trans (KB.trans (KB.trans k1 k2 (fun _ _ h => h) (fun _ _ h => h)) k3 (fun _ _ h => h) (fun i hi hx => by rw [blk_at0] at hx; omega)) k4 (fun _ _ h => h) (fun i hi hx => by have := low i hx; omega), fun x hx => ?_⟩
  · rw [hh1] at eh
    subst eh
    refine lets fun h2' eh => ?_
    rw [hh2] at eh
    subst eh
    have ne : ∀ i, neA (some ⟨h.length, i, none⟩) h1'.length := fun i ad had => by
      injection had with had
      subst had
      simp only
      omega
    rw [gate_pos (ne 2), (o1.keepN k2).at0 (i := 2) rfl]
    simp only [Option.bind_some, getS, e3]
    rw [gate_pos (ne 3), gate_pos, o1''.at0 (i := 3) rfl]
    · simp only [Option.bind_some, getS, e4]
      simp
    · intro ad had
      injection had with had
      subst had
      have hk : hget h3 h.length = hget h2' h.length := k3.2 _ (by omega) (fun hx => by rw [blk_at0] at hx; omega)
      exact ⟨fun j hj => by simp only [Am.cell, hk], by rw [hk]⟩
  · rcases f4 with ⟨_, rfl, _⟩ | f4
    · have := low x hx; omega
    · have := f4 x hx; omega

/-- A copy of a cell: rows of its own, each apart from the others. -/
theorem toCell_run {base : Nat} {h : AH} {p pc at_ : Int} {r b l : Option Addr} {R B L : List Int} (sr : Sl h r (iv .i64 R)) (sb : Sl h b (iv .i64 B)) (sl : Sl h l (iv .i64 L)) (hb : base ≤ h.length) (hR : R.length ≤ 1048576) (hB : B.length ≤ 1048576) (hL : L.length ≤ 1048576) :
    ∃ r' b' l' h', run (Et base) 25 [.agg (cellV p pc r b l R B L at_).toArray] h = some (.agg (cellV p pc r' b' l' R B L at_).toArray, h') ∧ Own base 3 h' r' (iv .i64 R) ∧ Own base 3 h' b' (iv .i64 B) ∧ Own base 3 h' l' (iv .i64 L) ∧ KB NoB h h' ∧
      (∀ x, blk r' x → h.length ≤ x) ∧ (∀ x, blk b' x → h.length ≤ x) ∧ (∀ x, blk l' x → h.length ≤ x) ∧ (∀ x, blk r' x → ¬ blk b' x) ∧ (∀ x, blk r' x → ¬ blk l' x) ∧ (∀ x, blk b' x → ¬ blk l' x) := by
  obtain ⟨o1, k1, l1⟩ := box_own (base := base) (t := 32) (h := h) (cs := cellV p pc r b l R B L at_) hb rfl
  generalize hh1 : h ++ [some (⟨cellV p pc r b l R B L at_, 32⟩ : Blk)] = h1 at o1 k1 l1
  obtain ⟨o2, k2, l2⟩ := box_own (base := base) (t := 35) (h := h1) (cs := cellV 0 0 none none none [] [] [] 0) (by omega) rfl
  generalize hh2 : h1 ++ [some (⟨cellV 0 0 none none none [] [] [] 0, 35⟩ : Blk)] = h2 at o2 k2 l2
  obtain ⟨o3, k3, l3⟩ := box_own (base := base) (t := 35) (h := h2) (cs := cellV 0 0 none none none [] [] [] 0) (by omega) rfl
  generalize hh3 : h2 ++ [some (⟨cellV 0 0 none none none [] [] [] 0, 35⟩ : Blk)] = h3 at o3 k3 l3
  have k03 : KB NoB h h3 := KB.trans (KB.trans k1 k2 (fun _ _ h => h) (fun _ _ h => h)) k3 (fun _ _ h => h) (fun _ _ h => h)
  have a3 := (o1.keepN k2).keepN k3
  have z3 := o2.keepN k3
  have below : ∀ {a : Option Addr} {vs : List Value}, Sl h a vs → vs = [] ∨ ∀ i, blk a i → i ≠ h2.length := fun s => (sl_below s).imp id fun hl i hi => by have := hl i hi; omega
  -- the first two fields
  obtain ⟨h5, e5, o5, k5, l5⟩ := o3.wr0 (i := 0) (new := [.int .i64 p]) (by simp) (by simp)
  have a5 := a3.keepB k5 fun i hi => by rw [blk_at0] at hi; omega
  have z5 := z3.keepB k5 fun i hi => by rw [blk_at0] at hi; omega
  obtain ⟨h7, e7, o7, k7, l7⟩ := o5.wr0 (i := 1) (new := [.int .i64 pc]) (by simp [setAt]) (by simp)
  have a7 := a5.keepB k7 fun i hi => by rw [blk_at0] at hi; omega
  have z7 := z5.keepB k7 fun i hi => by rw [blk_at0] at hi; omega
  have keep7 : ∀ {a : Option Addr} {vs : List Value}, Sl h a vs → Sl h7 a vs := fun s => ((s.keepN k03).keepB (h0 := h) k5 (below s)).keepB (h0 := h) k7 (below s)
  -- the rows
  obtain ⟨r', h9, e9, or9, k9, f9⟩ := toIntS_run (base := base) (keep7 sr) hR (by omega)
  have q9 := k9.1
  have a9 := a7.keepN k9
  have z9 := z7.keepN k9
  have o9 := o7.keepN k9
  obtain ⟨h11, e11, o11, k11, l11⟩ := o9.wr0 (i := 2) (new := [.slice r' R.length R.length]) (by simp [setAt]) (by simp)
  have a11 := a9.keepB k11 fun i hi => by rw [blk_at0] at hi; omega
  have z11 := z9.keepB k11 fun i hi => by rw [blk_at0] at hi; omega
  have or11 := or9.keepB k11 fun i hi => by have := f9 i hi; omega
  have keep11 : ∀ {a : Option Addr} {vs : List Value}, Sl h a vs → Sl h11 a vs := fun s => ((keep7 s).keepN k9).keepB (h0 := h) k11 (below s)
  obtain ⟨b', h13, e13, ob13, k13, f13⟩ := toIntS_run (base := base) (keep11 sb) hB (by omega)
  have q13 := k13.1
  have a13 := a11.keepN k13
  have z13 := z11.keepN k13
  have o13 := o11.keepN k13
  have or13 := or11.keepN k13
  obtain ⟨h15, e15, o15, k15, l15⟩ := o13.wr0 (i := 3) (new := [.slice b' B.length B.length]) (by simp [setAt]) (by simp)
  have a15 := a13.keepB k15 fun i hi => by rw [blk_at0] at hi; omega
  have z15 := z13.keepB k15 fun i hi => by rw [blk_at0] at hi; omega
  have or15 := or13.keepB k15 fun i hi => by have := f9 i hi; omega
  have ob15 := ob13.keepB k15 fun i hi => by have := f13 i hi; omega
  have keep15 : ∀ {a : Option Addr} {vs : List Value}, Sl h a vs → Sl h15 a vs := fun s => ((keep11 s).keepN k13).keepB (h0 := h) k15 (below s)
  obtain ⟨l', h17, e17, ol17, k17, f17⟩ := toIntS_run (base := base) (keep15 sl) hL (by omega)
  have q17 := k17.1
  have a17 := a15.keepN k17
  have z17 := z15.keepN k17
  have o17 := o15.keepN k17
  have or17 := or15.keepN k17
  have ob17 := ob15.keepN k17
  obtain ⟨h19, e19, o19, k19, l19⟩ := o17.wr0 (i := 4) (new := [.slice l' L.length L.length]) (by simp [setAt]) (by simp)
  have a19 := a17.keepB k19 fun i hi => by rw [blk_at0] at hi; omega
  have z19 := z17.keepB k19 fun i hi => by rw [blk_at0] at hi; omega
  have or19 := or17.keepB k19 fun i hi => by have := f9 i hi; omega
  have ob19 := ob17.keepB k19 fun i hi => by have := f13 i hi; omega
  have ol19 := ol17.keepB k19 fun i hi => by have := f17 i hi; omega
  obtain ⟨h21, e21, o21, k21, l21⟩ := o19.wr0 (i := 5) (new := [.int .i64 at_]) (by simp [setAt]) (by simp)
  have z21 := z19.keepB k21 fun i hi => by rw [blk_at0] at hi; omega
  have or21 := or19.keepB k21 fun i hi => by have := f9 i hi; omega
  have ob21 := ob19.keepB k21 fun i hi => by have := f13 i hi; omega
  have ol21 := ol19.keepB k21 fun i hi => by have := f17 i hi; omega
  have hout : setAt (setAt (setAt (setAt (setAt (setAt (cellV 0 0 none none none [] [] [] 0) 0 [.int .i64 p]) 1 [.int .i64 pc]) 2 [.slice r' R.length R.length]) 3 [.slice b' B.length B.length]) 4 [.slice l' L.length L.length]) 5 [.int .i64 at_] = cellV p pc r' b' l' R B L at_ := rfl
  rw [hout] at o21
  obtain ⟨h28, e28, z28, k28, l28⟩ := z21.wr0 (i := 0) (new := cellV p pc r' b' l' R B L at_) (by simp) (by simp)
  have hz : setAt (cellV 0 0 none none none [] [] [] 0) 0 (cellV p pc r' b' l' R B L at_) = cellV p pc r' b' l' R B L at_ := rfl
  rw [hz] at z28
  have or28 := or21.keepB k28 fun i hi => by have := f9 i hi; omega
  have ob28 := ob21.keepB k28 fun i hi => by have := f13 i hi; omega
  have ol28 := ol21.keepB k28 fun i hi => by have := f17 i hi; omega
  have c1 : ∀ {S T : Nat → Prop} {x y : AH}, KB NoB h x → KB S x y → (∀ i, S i → h.length ≤ i) → KB NoB h y := fun u v hS => KB.trans u v (fun _ _ h => h) (fun i hi hs => by have := hS i hs; omega)
  have kAll : KB NoB h h28 := by
    refine c1 (T := NoB) (c1 (T := NoB) (c1 (T := NoB) (c1 (T := NoB) (c1 (T := NoB) (c1 (T := NoB) (c1 (T := NoB) (c1 (T := NoB) (c1 (T := NoB) (c1 (T := NoB) k03 k5 ?_) k7 ?_) k9 ?_) k11 ?_) k13 ?_) k15 ?_) k17 ?_) k19 ?_) k21 ?_) k28 ?_ <;> (intro i hi; first | exact hi.elim | omega)
  refine ⟨r', b', l', h28, r25 (lets fun h1' eh => ?_), or28, ob28, ol28, kAll, fun x hx => by have := f9 x hx; omega, fun x hx => by have := f13 x hx; omega, fun x hx => by have := f17 x hx; omega,
    fun x h1 h2 => by have := (or9.lt h1).2; have := f13 x h2; omega, fun x h1 h2 => by have := (or9.lt h1).2; have := f17 x h2; omega, fun x h1 h2 => by have := (ob13.lt h1).2; have := f17 x h2; omega⟩
  rw [hh1] at eh
  subst eh
  refine lets fun h2' eh => ?_
  rw [show h1' ++ [some ⟨[(.int .i64 0), (.int .i64 0), (.slice none 0 0), (.slice none 0 0), (.slice none 0 0), (.int .i64 0)], 35⟩] = h2 from hh2] at eh
  subst eh
  refine lets fun h3' eh => ?_
  rw [show h2' ++ [some ⟨[(.int .i64 0), (.int .i64 0), (.slice none 0 0), (.slice none 0 0), (.slice none 0 0), (.int .i64 0)], 35⟩] = h3 from hh3] at eh
  subst eh
  rw [a3.at0 (i := 0) rfl]
  simp only [Option.bind_some, getI, if_true, e5]
  rw [a5.at0 (i := 1) rfl]
  simp only [Option.bind_some, getI, if_true, e7]
  rw [a7.at0 (i := 2) rfl]
  simp only [Option.bind_some, getS, e9, e11]
  rw [a11.at0 (i := 3) rfl]
  simp only [Option.bind_some, getS, e13, e15]
  rw [a15.at0 (i := 4) rfl]
  simp only [Option.bind_some, getS, e17, e19]
  rw [a19.at0 (i := 5) rfl]
  simp only [Option.bind_some, getI, if_true, e21]
  rw [o21.at0 (i := 0) rfl, o21.at0 (i := 1) rfl, o21.at0 (i := 2) rfl, o21.at0 (i := 3) rfl, o21.at0 (i := 4) rfl, o21.at0 (i := 5) rfl]
  simp only [Option.bind_some, getI, getS, if_true]
  rw [e28]
  simp only [Option.bind_some]
  rw [z28.at0 (i := 0) rfl, z28.at0 (i := 1) rfl, z28.at0 (i := 2) rfl, z28.at0 (i := 3) rfl, z28.at0 (i := 4) rfl, z28.at0 (i := 5) rfl]
  simp only [Option.bind_some, getI, getS, if_true]
end Go.Proofs.Ytgigdaijailfkaa.Am
