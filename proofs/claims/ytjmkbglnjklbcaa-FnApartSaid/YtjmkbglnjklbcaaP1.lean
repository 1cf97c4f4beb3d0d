/- What the functions of this law compute, lemma by lemma, up to the law.
Conditions: none. -/
import Derived.Test.YtjmkbglnjklbcaaMd
import Derived.Test.YtjmkbglnjklbcaaEq1
import Derived.DataShut
import Derived.IntWalk
import Derived.Laws.BitsLemmas

set_option linter.unusedSimpArgs false
set_option linter.unusedVariables false
namespace Go.Proofs.Ytjmkbglnjklbcaa.Am
open Go Go.RowKit
theorem w64i {n : Int} (h0 : -9223372036854775808 ≤ n) (h1 : n ≤ 9223372036854775807) : IntKind.i64.wrap n = n := IntWalk.i64_in n ⟨h0, h1⟩
theorem lets {α β : Type} {x : α} {f : α → Option β} {r : Option β} (h : ∀ y, y = x → f y = r) : (some x).bind f = r := h x rfl
abbrev at0 (b : Nat) : Option Addr := some ⟨b, 0, none⟩
theorem blk_at0 {b x : Nat} : blk (at0 b) x ↔ x = b := ⟨fun ⟨ad, e, h⟩ => by injection e with e; subst e; exact h.symm, fun e => ⟨_, rfl, e.symm⟩⟩
theorem box_own {base t : Nat} {h h1 : AH} {cs : List Value} (hb : base ≤ h.length) (e : h1 = h ++ [some ⟨cs, t⟩]) : Own base t h1 (at0 h.length) cs ∧ KB NoB h h1 ∧ h1.length = h.length + 1 := by
 subst e
 exact ⟨Own.new base t h cs hb, KB.push _ _ _, by simp⟩
theorem Own.at0 {base t : Nat} {h : AH} {b : Nat} {vs : List Value} (x : Own base t h (at0 b) vs) {i : Nat} {v : Value} (hi : vs[i]? = some v) : Am.cell h b i = some v := by
 obtain ⟨ad, e, hc⟩ := x.sl.cell hi
 injection e with e
 subst e
 simpa using hc
theorem Own.wr0 {base t : Nat} {h : AH} {b : Nat} {vs : List Value} (x : Own base t h (Am.at0 b) vs) {i : Nat} {new : List Value} (hi : i + new.length ≤ vs.length) (h0 : 0 < new.length) :
  ∃ h', Am.wr base h b i new = some h' ∧ Own base t h' (Am.at0 b) (setAt vs i new) ∧ KB (· = b) h h' ∧ h'.length = h.length := by
 obtain ⟨ad, h', e, h1, h2, h3, h4⟩ := x.wr hi h0
 injection e with e
 subst e
 refine ⟨h', by simpa using h1, h2, h3.mono fun i _ hb => blk_at0.1 hb, h4⟩
theorem Own.keepN {base t : Nat} {h h' : AH} {a : Option Addr} {vs : List Value} (x : Own base t h a vs) (k : KB NoB h h') : Own base t h' a vs := x.keep k fun _ _ h => h.elim
theorem Sl.keepN {h h' : AH} {a : Option Addr} {vs : List Value} (x : Sl h a vs) (k : KB NoB h h') : Sl h' a vs := x.keep k fun _ _ h => h.elim
theorem Own.keepB {base t b : Nat} {h h' : AH} {a : Option Addr} {vs : List Value} (x : Own base t h a vs) (k : KB (· = b) h h') (hb : ∀ i, blk a i → i ≠ b) : Own base t h' a vs := x.keep k fun i h1 h2 => hb i h1 h2
theorem Sl.keepB {b : Nat} {h0 h h' : AH} {a : Option Addr} {vs : List Value} (x : Sl h a vs) (k : KB (· = b) h h') (hb : vs = [] ∨ ∀ i, blk a i → i ≠ b) : Sl h' a vs := by
 rcases hb with e | hb
 ·exact .inl e
 ·exact x.keep k fun i h1 h2 => hb i h1 h2
theorem sl_below {h : AH} {a : Option Addr} {vs : List Value} (x : Sl h a vs) : vs = [] ∨ ∀ i, blk a i → i < h.length := by
 by_cases e : vs = []
 ·exact .inl e
 ·exact .inr fun i hi => by
   rcases x with h | ⟨ad, k, h1, h2, _⟩
   ·exact absurd h e
   ·obtain ⟨ad', e1, e2⟩ := hi
    rw [h1] at e1
    injection e1 with e1
    subst e1; subst e2
    exact hget_lt h2
theorem gate_pos {R : Type} {p : Prop} {x : Option R} (h : p) : gate p x = x := by unfold gate; rw [if_pos h]
theorem bs {α β : Type} {x : Option α} {v : α} (h : x = some v) {f : α → Option β} {r : Option β} (hf : f v = r) : x.bind f = r := by rw [h]; exact hf
theorem ifF {β : Type} {c : Prop} [Decidable c] {a b r : Option β} (h : ¬ c) (hb : b = r) : (if c then a else b) = r := by rw [if_neg h]; exact hb
theorem ifT {β : Type} {c : Prop} [Decidable c] {a b r : Option β} (h : c) (ha : a = r) : (if c then a else b) = r := by rw [if_pos h]; exact ha
theorem bI {β : Type} {k : IntKind} {n : Int} {x : Option Value} (h : x = some (.int k n)) {f : Int → Option β} {r : Option β} (hf : f n = r) : (x.bind (getI k)).bind f = r := by subst h; simpa [getI] using hf
theorem bS {β : Type} {a : Option Addr} {n c : Nat} {x : Option Value} (h : x = some (.slice a n c)) {f : Option Addr × Nat → Option β} {r : Option β} (hf : f (a, n) = r) : (x.bind getS).bind f = r := by subst h; exact hf
theorem bT {β : Type} {s : ByteArray} {x : Option Value} (h : x = some (.string s)) {f : ByteArray → Option β} {r : Option β} (hf : f s = r) : (x.bind getStr).bind f = r := by subst h; exact hf
theorem bB {β : Type} {b : Bool} {x : Option Value} (h : x = some (.bool b)) {f : Bool → Option β} {r : Option β} (hf : f b = r) : (x.bind getB).bind f = r := by subst h; exact hf
theorem bj {T β : Type} {x : Option (Sum T β)} {k : T → Option β} {r : Option β} (q : T) (h : x = some (.inl q)) (hf : k q = r) : (x.bind fun j => joinK j k) = r := by rw [h]; exact hf
theorem loop_on {b : Body} {s s' : Slots} {h h' : AH} {r : Option (Nat × Slots × AH)} (hb : b s h = some (0, s', h')) (hr : loopL b s' h' = r) : loopL b s h = r := by
 rw [loopL_eq, hb]
 exact hr
theorem loop_off {b : Body} {s s' : Slots} {h h' : AH} {e : Nat} (he : e ≠ 0) (hb : b s h = some (e, s', h')) : loopL b s h = some (e, s', h') := by
 rw [loopL_eq, hb]
 simp only [Option.bind_some]
 rw [if_neg he]
theorem kN {a b c : AH} (x : KB NoB a b) (y : KB NoB b c) : KB NoB a c := KB.trans x y (fun _ _ h => h) (fun _ _ h => h)
end Go.Proofs.Ytjmkbglnjklbcaa.Am
set_option linter.unusedSimpArgs false
set_option linter.unusedVariables false
namespace Go.Proofs.Ytjmkbglnjklbcaa.Am
open Go Go.RowKit
def Wp {β : Type} (o : Option β) (Q : β → Prop) : Prop := ∃ r, o = some r ∧ Q r
namespace W
variable {α β γ : Type} {Q : β → Prop}
theorem of {F R : Option β} (h : ∀ r, F = some r → R = some r) (w : Wp F Q) : Wp R Q := by
 obtain ⟨r, e, q⟩ := w
 exact ⟨r, h r e, q⟩
theorem ret {v : β} (q : Q v) : Wp (some v) Q := ⟨v, rfl, q⟩
theorem imp {o : Option β} {Q' : β → Prop} (h : ∀ r, Q r → Q' r) (w : Wp o Q) : Wp o Q' := by
 obtain ⟨r, e, q⟩ := w
 exact ⟨r, e, h r q⟩
theorem bs {x : Option α} {v : α} (h : x = some v) {f : α → Option β} (w : Wp (f v) Q) : Wp (x.bind f) Q := by rw [h]; exact w
theorem wb {x : Option α} {P : α → Prop} (h : Wp x P) {f : α → Option β} (w : ∀ v, P v → Wp (f v) Q) : Wp (x.bind f) Q := by
 obtain ⟨v, e, p⟩ := h
 rw [e]
 exact w v p
theorem bI {k : IntKind} {n : Int} {x : Option Value} (h : x = some (.int k n)) {f : Int → Option β} (w : Wp (f n) Q) : Wp ((x.bind (getI k)).bind f) Q := by subst h; simpa [getI] using w
theorem bS {a : Option Addr} {n c : Nat} {x : Option Value} (h : x = some (.slice a n c)) {f : Option Addr × Nat → Option β} (w : Wp (f (a, n)) Q) : Wp ((x.bind getS).bind f) Q := by subst h; exact w
theorem bT {s : ByteArray} {x : Option Value} (h : x = some (.string s)) {f : ByteArray → Option β} (w : Wp (f s) Q) : Wp ((x.bind getStr).bind f) Q := by subst h; exact w
theorem bB {b : Bool} {x : Option Value} (h : x = some (.bool b)) {f : Bool → Option β} (w : Wp (f b) Q) : Wp ((x.bind getB).bind f) Q := by subst h; exact w
theorem bA {a : Addr} {x : Option Value} (h : x = some (.pointer (some a))) {f : Addr → Option β} (w : Wp (f a) Q) : Wp ((x.bind getA).bind f) Q := by subst h; exact w
theorem ifT {c : Prop} [Decidable c] {a b : Option β} (h : c) (w : Wp a Q) : Wp (if c then a else b) Q := by rw [if_pos h]; exact w
theorem ifF {c : Prop} [Decidable c] {a b : Option β} (h : ¬ c) (w : Wp b Q) : Wp (if c then a else b) Q := by rw [if_neg h]; exact w
theorem ite {c : Prop} [Decidable c] {a b : Option β} (h1 : c → Wp a Q) (h2 : ¬ c → Wp b Q) : Wp (if c then a else b) Q := by
 by_cases h : c
 ·rw [if_pos h]; exact h1 h
 ·rw [if_neg h]; exact h2 h
theorem gt {p : Prop} {x : Option β} (h : p) (w : Wp x Q) : Wp (gate p x) Q := by rw [gate_pos h]; exact w
theorem join {x : Option (Sum γ β)} {k : γ → Option β} (w : Wp x (Sum.elim (fun q => Wp (k q) Q) Q)) : Wp (x.bind fun j => joinK j k) Q := by
 obtain ⟨r, e, q⟩ := w
 rw [e]
 cases r with
 | inl r => exact q
 | inr r => exact ⟨r, rfl, q⟩
theorem joinP (P : γ → Prop) {x : Option (Sum γ β)} {k : γ → Option β} (w : Wp x (Sum.elim P Q)) (h : ∀ q, P q → Wp (k q) Q) : Wp (x.bind fun j => joinK j k) Q := by
 obtain ⟨r, e, q⟩ := w
 rw [e]
 cases r with
 | inl r => exact h r q
 | inr r => exact ⟨r, rfl, q⟩
theorem inl {P : γ → Prop} {v : γ} (q : P v) : Wp (some (Sum.inl v : Sum γ β)) (Sum.elim P Q) := ⟨_, rfl, q⟩
theorem inr {P : γ → Prop} {v : β} (q : Q v) : Wp (some (Sum.inr v : Sum γ β)) (Sum.elim P Q) := ⟨_, rfl, q⟩
theorem box {base t : Nat} {h : AH} {cs : List Value} {f : AH → Option β} (hb : base ≤ h.length) (w : ∀ h1, Own base t h1 (at0 h.length) cs → KB NoB h h1 → h1.length = h.length + 1 → Wp (f h1) Q) : Wp ((some (h ++ [some ⟨cs, t⟩])).bind f) Q := by
 obtain ⟨o1, k1, q1⟩ := box_own (base := base) (t := t) (h := h) (cs := cs) hb rfl
 exact w _ o1 k1 q1
theorem wr0 {base t b i : Nat} {h : AH} {vs new : List Value} {f : AH → Option β} (o : Own base t h (at0 b) vs) (hi : i + new.length ≤ vs.length) (h0 : 0 < new.length) (w : ∀ h1, Own base t h1 (at0 b) (setAt vs i new) → KB (· = b) h h1 → h1.length = h.length → Wp (f h1) Q) : Wp ((Am.wr base h b i new).bind f) Q := by
 obtain ⟨h1, e, o1, k1, l1⟩ := o.wr0 hi h0
 rw [e]
 exact w h1 o1 k1 l1
theorem call {x : Option (Value × AH)} {v : Value} {P : AH → Prop} {f : Value × AH → Option β} (h : ∃ h', x = some (v, h') ∧ P h') (w : ∀ h', P h' → Wp (f (v, h')) Q) : Wp (x.bind f) Q := by
 obtain ⟨h', e, p⟩ := h
 rw [e]
 exact w h' p
end W
theorem Wp.run {x : Option (Value × AH)} {v : Value} {P : AH → Prop} (w : Wp x fun r => r.1 = v ∧ P r.2) : ∃ h', x = some (v, h') ∧ P h' := by
 obtain ⟨⟨u, h⟩, e, q, p⟩ := w
 exact ⟨h, by rw [e]; simp only at q; rw [q], p⟩
end Go.Proofs.Ytjmkbglnjklbcaa.Am
set_option linter.unusedSimpArgs false
set_option linter.unusedVariables false
namespace Go.Proofs.Ytjmkbglnjklbcaa.Am
open Go Go.RowKit
inductive Tm where
 | mk (k n : Int) (s : ByteArray) (l : List Tm)
def TmR (h : AH) (p : Nat → Prop) : Nat → Tm → List Value → Prop
 | 0, _, _ => False
 | f + 1, .mk k n s l, cs => s.size ≤ maxLen ∧ l.length ≤ maxLen ∧ ∃ a vs, cs = [.int .i64 k, .int .i64 n, .string s, .slice a l.length l.length] ∧ Sl h a vs ∧ (vs = [] ∨ ∀ b, blk a b → p b) ∧ vs.length = l.length * 4 ∧
   ∀ i t, l[i]? = some t → TmR h p f t ((vs.drop (i * 4)).take 4)
def TsR (h : AH) (p : Nat → Prop) (f : Nat) (l : List Tm) (a : Option Addr) : Prop :=
 ∃ vs, Sl h a vs ∧ (vs = [] ∨ ∀ b, blk a b → p b) ∧ vs.length = l.length * 4 ∧ ∀ i t, l[i]? = some t → TmR h p f t ((vs.drop (i * 4)).take 4)
theorem TmR.keep {h h' : AH} {p S : Nat → Prop} (k : KB S h h') (hp : ∀ b, p b → ¬ S b) : ∀ (f : Nat) (t : Tm) (cs : List Value), TmR h p f t cs → TmR h' p f t cs
 | 0, _, _, x => x
 | f + 1, .mk kk n s l, cs, x => by
  obtain ⟨h1, h2, a, vs, h3, h4, h5, h6, h7⟩ := x
  refine ⟨h1, h2, a, vs, h3, ?_, h5, h6, fun i t hi => TmR.keep k hp f t _ (h7 i t hi)⟩
  rcases h5 with e | h5
  ·exact .inl e
  ·exact h4.keep k fun b hb hs => hp b (h5 b hb) hs
theorem TsR.keep {h h' : AH} {p S : Nat → Prop} (k : KB S h h') (hp : ∀ b, p b → ¬ S b) {f : Nat} {l : List Tm} {a : Option Addr} (x : TsR h p f l a) : TsR h' p f l a := by
 obtain ⟨vs, h4, h5, h6, h7⟩ := x
 refine ⟨vs, ?_, h5, h6, fun i t hi => TmR.keep k hp f t _ (h7 i t hi)⟩
 rcases h5 with e | h5
 ·exact .inl e
 ·exact h4.keep k fun b hb hs => hp b (h5 b hb) hs
theorem TmR.mono {h : AH} {p q : Nat → Prop} (hpq : ∀ b, p b → q b) : ∀ (f : Nat) (t : Tm) (cs : List Value), TmR h p f t cs → TmR h q f t cs
 | 0, _, _, x => x
 | f + 1, .mk kk n s l, cs, x => by
  obtain ⟨h1, h2, a, vs, h3, h4, h5, h6, h7⟩ := x
  exact ⟨h1, h2, a, vs, h3, h4, h5.imp id fun h b hb => hpq b (h b hb), h6, fun i t hi => TmR.mono hpq f t _ (h7 i t hi)⟩
theorem TmR.parts {h : AH} {p : Nat → Prop} {f : Nat} {k n : Int} {s : ByteArray} {l : List Tm} {cs : List Value} (x : TmR h p (f + 1) (.mk k n s l) cs) :
  ∃ a, cs = [.int .i64 k, .int .i64 n, .string s, .slice a l.length l.length] ∧ TsR h p f l a ∧ s.size ≤ maxLen ∧ l.length ≤ maxLen := by
 obtain ⟨h1, h2, a, vs, h3, h4, h5, h6, h7⟩ := x
 exact ⟨a, h3, ⟨vs, h4, h5, h6, h7⟩, h1, h2⟩
theorem TmR.of {h : AH} {p : Nat → Prop} {f : Nat} {k n : Int} {s : ByteArray} {l : List Tm} {a : Option Addr} (x : TsR h p f l a) (h1 : s.size ≤ maxLen) (h2 : l.length ≤ maxLen) :
  TmR h p (f + 1) (.mk k n s l) [.int .i64 k, .int .i64 n, .string s, .slice a l.length l.length] := by
 obtain ⟨vs, h4, h5, h6, h7⟩ := x
 exact ⟨h1, h2, a, vs, rfl, h4, h5, h6, h7⟩
theorem TsR.get {h : AH} {p : Nat → Prop} {f : Nat} {l : List Tm} {a : Option Addr} (x : TsR h p f l a) {i : Nat} (hi : i < l.length) :
  ∃ ad c0 c1 c2 c3, a = some ad ∧ Am.cell h ad.block (ad.off + i * 4) = some c0 ∧ Am.cell h ad.block (ad.off + i * 4 + 1) = some c1 ∧ Am.cell h ad.block (ad.off + i * 4 + 1 + 1) = some c2 ∧ Am.cell h ad.block (ad.off + i * 4 + 1 + 1 + 1) = some c3 ∧ TmR h p f l[i] [c0, c1, c2, c3] := by
 obtain ⟨vs, h4, h5, h6, h7⟩ := x
 have hlt : i * 4 + 3 < vs.length := by omega
 have hm := h7 i l[i] (List.getElem?_eq_getElem hi)
 obtain ⟨ad, e0, g0⟩ := h4.cell (i := i * 4) (List.getElem?_eq_getElem (by omega))
 obtain ⟨ad1, e1, g1⟩ := h4.cell (i := i * 4 + 1) (List.getElem?_eq_getElem (by omega))
 obtain ⟨ad2, e2, g2⟩ := h4.cell (i := i * 4 + 2) (List.getElem?_eq_getElem (by omega))
 obtain ⟨ad3, e3, g3⟩ := h4.cell (i := i * 4 + 3) (List.getElem?_eq_getElem (by omega))
 subst e0
 injection e1 with e1
 injection e2 with e2
 injection e3 with e3
 subst e1; subst e2; subst e3
 have e4 : (vs.drop (i * 4)).take 4 = [vs[i * 4], vs[i * 4 + 1], vs[i * 4 + 2], vs[i * 4 + 3]] := by
  apply List.ext_getElem?
  intro j
  match j with
  | 0 => rw [List.getElem?_take_of_lt (by decide), List.getElem?_drop]; exact List.getElem?_eq_getElem (by omega)
  | 1 => rw [List.getElem?_take_of_lt (by decide), List.getElem?_drop]; exact List.getElem?_eq_getElem (by omega)
  | 2 => rw [List.getElem?_take_of_lt (by decide), List.getElem?_drop]; exact List.getElem?_eq_getElem (by omega)
  | 3 => rw [List.getElem?_take_of_lt (by decide), List.getElem?_drop]; exact List.getElem?_eq_getElem (by omega)
  | j + 4 => rw [List.getElem?_eq_none (by simp; omega), List.getElem?_eq_none (by simp)]
 rw [e4] at hm
 exact ⟨ad, _, _, _, _, rfl, g0, by rw [Nat.add_assoc]; exact g1, by rw [Nat.add_assoc, Nat.add_assoc]; exact g2, by rw [Nat.add_assoc, Nat.add_assoc, Nat.add_assoc]; exact g3, hm⟩
def TmB : Nat → Tm → Prop
 | 0, _ => False
 | f + 1, .mk _ _ s l => s.size ≤ 1048576 ∧ l.length ≤ 1048576 ∧ ∀ t ∈ l, TmB f t
abbrev termV (k n : Int) (s : ByteArray) (a : Option Addr) (m : Nat) : List Value := [.int .i64 k, .int .i64 n, .string s, .slice a m m]
theorem TmR.form {h : AH} {p : Nat → Prop} {f : Nat} {t : Tm} {cs : List Value} (x : TmR h p f t cs) : ∃ k n s a m, cs = termV k n s a m := by
 cases f with
 | zero => exact x.elim
 | succ f =>
  obtain ⟨k, n, s, l⟩ := t
  obtain ⟨a, e, _⟩ := x.parts
  exact ⟨k, n, s, a, _, e⟩
theorem TmR.same {h : AH} {p p2 : Nat → Prop} {f f2 : Nat} {t : Tm} {k n k2 n2 : Int} {s s2 : ByteArray} {a a2 : Option Addr} {m m2 : Nat} (x : TmR h p f t (termV k n s a m)) (y : TmR h p2 f2 t (termV k2 n2 s2 a2 m2)) : k2 = k ∧ n2 = n ∧ s2 = s ∧ m2 = m := by
 cases f with
 | zero => exact x.elim
 | succ f =>
  cases f2 with
  | zero => exact y.elim
  | succ f2 =>
   obtain ⟨k0, n0, s0, l0⟩ := t
   obtain ⟨_, e, _⟩ := x.parts
   obtain ⟨_, e', _⟩ := y.parts
   injection e with e0 e
   injection e with e1 e
   injection e with e2 e
   injection e with e3 _
   injection e0 with _ e0
   injection e1 with _ e1
   injection e2 with e2
   injection e3 with _ e3 _
   injection e' with f0 e'
   injection e' with f1 e'
   injection e' with f2 e'
   injection e' with f3 _
   injection f0 with _ f0
   injection f1 with _ f1
   injection f2 with f2
   injection f3 with _ f3 _
   exact ⟨f0.trans e0.symm, f1.trans e1.symm, f2.trans e2.symm, f3.trans e3.symm⟩
end Go.Proofs.Ytjmkbglnjklbcaa.Am
set_option linter.unusedSimpArgs false
set_option linter.unusedVariables false
namespace Go.Proofs.Ytjmkbglnjklbcaa.Am
open Go Go.RowKit
abbrev Fp := Nat → Prop
abbrev iS (lo hi : Nat) : Fp := fun b => lo ≤ b ∧ b < hi
abbrev chunk (w i : Nat) (vs : List Value) : List Value := (vs.drop (i * w)).take w
def Kp {α : Type} (P : Fp → AH → α → List Value → Prop) : Prop := ∀ (S U : Fp) (h h' : AH) (x : α) (cs : List Value), KB U h h' → (∀ b, S b → ¬ U b) → P S h x cs → P S h' x cs
def Mo {α : Type} (P : Fp → AH → α → List Value → Prop) : Prop := ∀ (S S' : Fp) (h : AH) (x : α) (cs : List Value), (∀ b, S b → S' b) → P S h x cs → P S' h x cs
section
variable {α : Type} {w : Nat} {P : Fp → AH → α → List Value → Prop}
def Chunks (w : Nat) (P : Fp → AH → α → List Value → Prop) (S : Fp) (h : AH) (l : List α) (vs : List Value) : Prop :=
 ∃ C : Nat → Fp, (∀ i b, C i b → S b) ∧ (∀ i j b, i ≠ j → C i b → ¬ C j b) ∧ ∀ i x, l[i]? = some x → P (C i) h x (chunk w i vs)
def RowD (w : Nat) (P : Fp → AH → α → List Value → Prop) (S : Fp) (h : AH) (l : List α) (a : Option Addr) : Prop :=
 ∃ (vs : List Value) (T : Fp), Sl h a vs ∧ vs.length = l.length * w ∧ (vs = [] ∨ ∀ b, blk a b → S b ∧ ¬ T b) ∧ (∀ b, T b → S b) ∧ Chunks w P T h l vs
theorem Chunks.keep (kp : Kp P) {S U : Fp} {h h' : AH} {l : List α} {vs : List Value} (k : KB U h h') (hs : ∀ b, S b → ¬ U b) (x : Chunks w P S h l vs) : Chunks w P S h' l vs := by
 obtain ⟨C, c1, c2, c3⟩ := x
 exact ⟨C, c1, c2, fun i y hy => kp _ _ _ _ _ _ k (fun b hb => hs b (c1 i b hb)) (c3 i y hy)⟩
theorem Chunks.mono {S S' : Fp} {h : AH} {l : List α} {vs : List Value} (hs : ∀ b, S b → S' b) (x : Chunks w P S h l vs) : Chunks w P S' h l vs := by
 obtain ⟨C, c1, c2, c3⟩ := x
 exact ⟨C, fun i b hb => hs b (c1 i b hb), c2, c3⟩
theorem Chunks.nil {S : Fp} {h : AH} {vs : List Value} : Chunks w P S h ([] : List α) vs := ⟨fun _ _ => False, fun _ _ h => h.elim, fun _ _ _ _ h => h.elim, fun i x h => by simp at h⟩
theorem RowD.keep (kp : Kp P) {S U : Fp} {h h' : AH} {l : List α} {a : Option Addr} (x : RowD w P S h l a) (k : KB U h h') (hs : ∀ b, S b → ¬ U b) : RowD w P S h' l a := by
 obtain ⟨vs, T, x1, x2, x3, x4, x5⟩ := x
 refine ⟨vs, T, ?_, x2, x3, x4, x5.keep kp k fun b hb => hs b (x4 b hb)⟩
 rcases x3 with e | x3
 ·exact .inl e
 ·exact x1.keep k fun b hb => hs b (x3 b hb).1
theorem RowD.mono {S S' : Fp} {h : AH} {l : List α} {a : Option Addr} (x : RowD w P S h l a) (hs : ∀ b, S b → S' b) : RowD w P S' h l a := by
 obtain ⟨vs, T, x1, x2, x3, x4, x5⟩ := x
 exact ⟨vs, T, x1, x2, x3.imp id fun g b hb => ⟨hs b (g b hb).1, (g b hb).2⟩, fun b hb => hs b (x4 b hb), x5⟩
theorem RowD.nil {S : Fp} {h : AH} {a : Option Addr} : RowD w P S h ([] : List α) a := ⟨[], fun _ => False, .inl rfl, by simp, .inl rfl, fun _ h => h.elim, Chunks.nil⟩
def RowO (base t w : Nat) (P : Fp → AH → α → List Value → Prop) (S : Fp) (h : AH) (l : List α) (a : Option Addr) : Prop :=
 ∃ (vs : List Value) (T : Fp), Own base t h a vs ∧ vs.length = l.length * w ∧ (∀ b, blk a b → S b ∧ ¬ T b) ∧ (∀ b, T b → S b) ∧ Chunks w P T h l vs
theorem RowO.d {base t : Nat} {S : Fp} {h : AH} {l : List α} {a : Option Addr} (x : RowO base t w P S h l a) : RowD w P S h l a := by
 obtain ⟨vs, T, x1, x2, x3, x4, x5⟩ := x
 exact ⟨vs, T, x1.sl, x2, .inr x3, x4, x5⟩
theorem RowO.keep (kp : Kp P) {base t : Nat} {S U : Fp} {h h' : AH} {l : List α} {a : Option Addr} (x : RowO base t w P S h l a) (k : KB U h h') (hs : ∀ b, S b → ¬ U b) : RowO base t w P S h' l a := by
 obtain ⟨vs, T, x1, x2, x3, x4, x5⟩ := x
 exact ⟨vs, T, x1.keep k fun b hb => hs b (x3 b hb).1, x2, x3, x4, x5.keep kp k fun b hb => hs b (x4 b hb)⟩
theorem RowO.mono {base t : Nat} {S S' : Fp} {h : AH} {l : List α} {a : Option Addr} (x : RowO base t w P S h l a) (hs : ∀ b, S b → S' b) : RowO base t w P S' h l a := by
 obtain ⟨vs, T, x1, x2, x3, x4, x5⟩ := x
 exact ⟨vs, T, x1, x2, fun b hb => ⟨hs b (x3 b hb).1, (x3 b hb).2⟩, fun b hb => hs b (x4 b hb), x5⟩
theorem RowO.nil {base t : Nat} {S : Fp} {h : AH} : RowO base t w P S h ([] : List α) none := ⟨[], fun _ => False, .inl ⟨rfl, rfl⟩, by simp, fun b hb => (by obtain ⟨_, e, _⟩ := hb; cases e), fun _ h => h.elim, Chunks.nil⟩
theorem Chunks.imp {Q : Fp → AH → α → List Value → Prop} {S : Fp} {h : AH} {l : List α} {vs : List Value} (hPQ : ∀ S h x cs, P S h x cs → Q S h x cs) (x : Chunks w P S h l vs) : Chunks w Q S h l vs := by
 obtain ⟨C, c1, c2, c3⟩ := x
 exact ⟨C, c1, c2, fun i y hy => hPQ _ _ _ _ (c3 i y hy)⟩
theorem RowD.imp {Q : Fp → AH → α → List Value → Prop} {S : Fp} {h : AH} {l : List α} {a : Option Addr} (hPQ : ∀ S h x cs, P S h x cs → Q S h x cs) (x : RowD w P S h l a) : RowD w Q S h l a := by
 obtain ⟨vs, T, x1, x2, x3, x4, x5⟩ := x
 exact ⟨vs, T, x1, x2, x3, x4, x5.imp hPQ⟩
theorem Sl.wr {base : Nat} {h : AH} {a : Option Addr} {vs : List Value} (x : Sl h a vs) (hb : ∀ b, blk a b → base ≤ b) {i : Nat} {new : List Value} (hi : i + new.length ≤ vs.length) (h0 : 0 < new.length) :
  ∃ ad h', a = some ad ∧ Am.wr base h ad.block (ad.off + i) new = some h' ∧ Sl h' a (setAt vs i new) ∧ KB (blk a) h h' ∧ h'.length = h.length := by
 rcases x with h | ⟨ad, kk, h1, h2, h3, h4⟩
 ·subst h; simp only [List.length_nil] at hi; omega
 ·have hbb := hb ad.block ⟨ad, h1, rfl⟩
  refine ⟨ad, h.set ad.block (some ⟨setAt kk.cs (ad.off + i) new, kk.ty⟩), h1, ?_, ?_, KB.set _ ⟨ad, h1, rfl⟩, by simp⟩
  ·unfold Am.wr
   rw [if_pos hbb, h2]
   simp only [Option.bind_some]
   rw [if_pos (by omega)]
  ·have hl : (setAt vs i new).length = vs.length := by simp [setAt]; omega
   refine .inr ⟨ad, ⟨setAt kk.cs (ad.off + i) new, kk.ty⟩, h1, hget_set_self (hget_lt h2), ?_, fun j v hj => ?_⟩
   ·rw [hl]; simp [setAt]; omega
   ·simp only
    rw [setAt_get hi] at hj
    rw [setAt_get (by omega)]
    split at hj
    ·rename_i hin
     rw [if_pos (by omega), show ad.off + j - (ad.off + i) = j - i from by omega]
     exact hj
    ·rename_i hout
     rw [if_neg (by omega)]
     exact h4 j v hj
def Foc (w : Nat) (P : Fp → AH → α → List Value → Prop) (S : Fp) (h : AH) (l : List α) (a : Option Addr) (i : Nat) (Ci : Fp) (cs : List Value) : Prop :=
 ∃ (vs : List Value) (T : Fp) (C : Nat → Fp), Sl h a vs ∧ vs.length = l.length * w ∧ (∀ b, blk a b → S b ∧ ¬ T b) ∧ (∀ b, T b → S b) ∧ (∀ q b, C q b → T b) ∧ (∀ q j b, q ≠ j → C q b → ¬ C j b) ∧
  (∀ q x, q ≠ i → l[q]? = some x → P (C q) h x (chunk w q vs)) ∧ i < l.length ∧ chunk w i vs = cs ∧ C i = Ci
theorem mul_le' {i n w : Nat} (h : i < n) : i * w + w ≤ n * w := by
 have := Nat.mul_le_mul_right w (Nat.succ_le_of_lt h)
 rw [Nat.succ_mul] at this
 exact this
theorem chunk_len {w i n : Nat} {vs : List Value} (hl : vs.length = n * w) (hi : i < n) : (chunk w i vs).length = w := by
 have := mul_le' (w := w) hi
 simp [chunk]
 omega
theorem RowD.open (hw : 0 < w) {S : Fp} {h : AH} {l : List α} {a : Option Addr} (x : RowD w P S h l a) {i : Nat} (hi : i < l.length) :
  ∃ Ci cs, Foc w P S h l a i Ci cs ∧ P Ci h l[i] cs ∧ cs.length = w ∧ (∀ b, Ci b → S b) ∧ (∀ b, blk a b → ¬ Ci b) := by
 obtain ⟨vs, T, x1, x2, x3, x4, C, c1, c2, c3⟩ := x
 have hne : vs ≠ [] := by
  intro e
  subst e
  have := mul_le' (w := w) hi
  simp at x2
  omega
 have x3' := x3.resolve_left hne
 exact ⟨C i, chunk w i vs, ⟨vs, T, C, x1, x2, x3', x4, c1, c2, fun q y _ hy => c3 q y hy, hi, rfl, rfl⟩, c3 i _ (List.getElem?_eq_getElem hi), chunk_len x2 hi, fun b hb => x4 b (c1 i b hb), fun b hb hc => (x3' b hb).2 (c1 i b hc)⟩
theorem Foc.keep (kp : Kp P) {S U : Fp} {h h' : AH} {l : List α} {a : Option Addr} {i : Nat} {Ci : Fp} {cs : List Value} (x : Foc w P S h l a i Ci cs) (k : KB U h h') (hs : ∀ b, S b → U b → Ci b) : Foc w P S h' l a i Ci cs := by
 obtain ⟨vs, T, C, x1, x2, x3, x4, c1, c2, c3, hi, e1, e2⟩ := x
 subst e2
 refine ⟨vs, T, C, x1.keep k fun b hb hu => (x3 b hb).2 (c1 i b (hs b (x3 b hb).1 hu)), x2, x3, x4, c1, c2, fun q y hq hy => kp _ _ _ _ _ _ k (fun b hb hu => c2 q i b hq hb (hs b (x4 b (c1 q b hb)) hu)) (c3 q y hq hy), hi, e1, rfl⟩
theorem Foc.wr (kp : Kp P) {base : Nat} {S : Fp} {h : AH} {l : List α} {a : Option Addr} {i : Nat} {Ci : Fp} {cs : List Value} (x : Foc w P S h l a i Ci cs) (hb : ∀ b, S b → base ≤ b) {j : Nat} {new : List Value} (hj : j + new.length ≤ w) (h0 : 0 < new.length) :
  ∃ ad h', a = some ad ∧ Am.wr base h ad.block (ad.off + i * w + j) new = some h' ∧ Foc w P S h' l a i Ci (setAt cs j new) ∧ KB (blk a) h h' ∧ h'.length = h.length := by
 obtain ⟨vs, T, C, x1, x2, x3, x4, c1, c2, c3, hi, e1, e2⟩ := x
 subst e2
 have hle := mul_le' (w := w) hi
 obtain ⟨ad, h', w1, w2, w3, w4, w5⟩ := x1.wr (base := base) (fun b hbb => hb b (x3 b hbb).1) (i := i * w + j) (new := new) (by omega) h0
 refine ⟨ad, h', w1, by rw [Nat.add_assoc]; exact w2, ⟨setAt vs (i * w + j) new, T, C, w3, ?_, x3, x4, c1, c2, fun q y hq hy => ?_, hi, ?_, rfl⟩, w4, w5⟩
 ·simp [setAt]; omega
 ·have e : chunk w q (setAt vs (i * w + j) new) = chunk w q vs := by
   apply List.ext_getElem?
   intro t
   by_cases ht : t < w
   ·rw [chunk, chunk, List.getElem?_take_of_lt ht, List.getElem?_take_of_lt ht, List.getElem?_drop, List.getElem?_drop, setAt_get (by omega), if_neg]
    intro hh
    rcases Nat.lt_or_gt_of_ne hq with hlt | hgt
    ·have := mul_le' (w := w) hlt; omega
    ·have := mul_le' (w := w) hgt; omega
   ·rw [List.getElem?_eq_none (by simp [chunk]; omega), List.getElem?_eq_none (by simp [chunk]; omega)]
  rw [e]
  exact kp _ _ _ _ _ _ w4 (fun b hbb hk => (x3 b hk).2 (c1 q b hbb)) (c3 q y hq hy)
 ·rw [← e1]
  apply List.ext_getElem?
  intro t
  have hcl : (chunk w i vs).length = w := chunk_len x2 hi
  by_cases ht : t < w
  ·rw [chunk, List.getElem?_take_of_lt ht, List.getElem?_drop, setAt_get (by omega), setAt_get (by omega)]
   by_cases hin : j ≤ t ∧ t < j + new.length
   ·rw [if_pos (by omega), if_pos (by omega), show i * w + t - (i * w + j) = t - j from by omega]
   ·rw [if_neg (by omega), if_neg (by omega), chunk, List.getElem?_take_of_lt ht, List.getElem?_drop]
  ·rw [List.getElem?_eq_none (by simp [chunk]; omega), List.getElem?_eq_none (by simp [setAt]; omega)]
theorem Foc.cell {S : Fp} {h : AH} {l : List α} {a : Option Addr} {i : Nat} {Ci : Fp} {cs : List Value} (x : Foc w P S h l a i Ci cs) {j : Nat} {v : Value} (hv : cs[j]? = some v) : ∃ ad, a = some ad ∧ Am.cell h ad.block (ad.off + i * w + j) = some v := by
 obtain ⟨vs, T, C, x1, x2, x3, x4, c1, c2, c3, hi, e1, e2⟩ := x
 have hjw : j < w := by
  have h1 := (List.getElem?_eq_some_iff.1 hv).1
  rw [← e1, chunk_len x2 hi] at h1
  exact h1
 rw [← e1, chunk, List.getElem?_take_of_lt hjw, List.getElem?_drop] at hv
 obtain ⟨ad, g1, g2⟩ := x1.cell hv
 exact ⟨ad, g1, by rw [Nat.add_assoc]; exact g2⟩
end
theorem chunk_setAt_self {w i : Nat} {vs cs : List Value} (hc : cs.length = w) (hi : i * w + w ≤ vs.length) : chunk w i (setAt vs (i * w) cs) = cs := by
 apply List.ext_getElem?
 intro j
 by_cases hj : j < w
 ·rw [chunk, List.getElem?_take_of_lt hj, List.getElem?_drop, setAt_get (by omega), if_pos (by omega), show i * w + j - i * w = j from by omega]
 ·rw [List.getElem?_eq_none (by simp [chunk]; omega), List.getElem?_eq_none (by omega)]
theorem chunk_setAt_other {w i j : Nat} {vs cs : List Value} (hc : cs.length = w) (hi : i * w + w ≤ vs.length) (hne : j ≠ i) : chunk w j (setAt vs (i * w) cs) = chunk w j vs := by
 apply List.ext_getElem?
 intro k
 by_cases hk : k < w
 ·rw [chunk, chunk, List.getElem?_take_of_lt hk, List.getElem?_take_of_lt hk, List.getElem?_drop, List.getElem?_drop, setAt_get (by omega), if_neg]
  intro hh
  rcases Nat.lt_or_gt_of_ne hne with hlt | hgt
  ·have := mul_le' (w := w) hlt; omega
  ·have := mul_le' (w := w) hgt; omega
 ·rw [List.getElem?_eq_none (by simp [chunk]; omega), List.getElem?_eq_none (by simp [chunk]; omega)]
theorem chunk_app_other {w i : Nat} {vs cs : List Value} (hi : i * w + w ≤ vs.length) : chunk w i (vs ++ cs) = chunk w i vs := by
 apply List.ext_getElem?
 intro k
 by_cases hk : k < w
 ·rw [chunk, chunk, List.getElem?_take_of_lt hk, List.getElem?_take_of_lt hk, List.getElem?_drop, List.getElem?_drop, List.getElem?_append_left (by omega)]
 ·rw [List.getElem?_eq_none (by simp [chunk]; omega), List.getElem?_eq_none (by simp [chunk]; omega)]
def TmD : Nat → Fp → AH → Tm → List Value → Prop
 | 0, _, _, _, _ => False
 | f + 1, S, h, .mk k n s l, cs => s.size ≤ maxLen ∧ l.length ≤ maxLen ∧ ∃ a, cs = termV k n s a l.length ∧ RowD 4 (TmD f) S h l a
theorem TmD.kp : ∀ f, Kp (TmD f)
 | 0 => fun S U h h' x cs k hs y => y.elim
 | f + 1 => fun S U h h' x cs k hs y => by
  obtain ⟨kk, n, s, l⟩ := x
  obtain ⟨h1, h2, a, e, r⟩ := y
  exact ⟨h1, h2, a, e, r.keep (TmD.kp f) k hs⟩
theorem TmD.mo : ∀ f, Mo (TmD f)
 | 0 => fun S S' h x cs hs y => y.elim
 | f + 1 => fun S S' h x cs hs y => by
  obtain ⟨kk, n, s, l⟩ := x
  obtain ⟨h1, h2, a, e, r⟩ := y
  exact ⟨h1, h2, a, e, r.mono hs⟩
def TmG (base : Nat) : Nat → Fp → AH → Tm → List Value → Prop
 | 0, _, _, _, _ => False
 | f + 1, S, h, .mk k n s l, cs => s.size ≤ maxLen ∧ l.length ≤ maxLen ∧ ∃ a, cs = termV k n s a l.length ∧ RowO base 39 4 (TmG base f) S h l a
theorem TmG.kp (base : Nat) : ∀ f, Kp (TmG base f)
 | 0 => fun S U h h' x cs k hs y => y.elim
 | f + 1 => fun S U h h' x cs k hs y => by
  obtain ⟨kk, n, s, l⟩ := x
  obtain ⟨h1, h2, a, e, r⟩ := y
  exact ⟨h1, h2, a, e, r.keep (TmG.kp base f) k hs⟩
theorem TmG.mo (base : Nat) : ∀ f, Mo (TmG base f)
 | 0 => fun S S' h x cs hs y => y.elim
 | f + 1 => fun S S' h x cs hs y => by
  obtain ⟨kk, n, s, l⟩ := x
  obtain ⟨h1, h2, a, e, r⟩ := y
  exact ⟨h1, h2, a, e, r.mono hs⟩
theorem TmG.d {base : Nat} : ∀ {f : Nat} {S : Fp} {h : AH} {t : Tm} {cs : List Value}, TmG base f S h t cs → TmD f S h t cs
 | 0, _, _, _, _, x => x.elim
 | f + 1, S, h, .mk k n s l, cs, x => by
  obtain ⟨h1, h2, a, e, r⟩ := x
  exact ⟨h1, h2, a, e, r.d.imp fun _ _ _ _ => TmG.d⟩
theorem RowO.dT {base f : Nat} {S : Fp} {h : AH} {l : List Tm} {a : Option Addr} {t : Nat} (x : RowO base t 4 (TmG base f) S h l a) : RowD 4 (TmD f) S h l a := x.d.imp fun _ _ _ _ => TmG.d
theorem TmG.form {base f : Nat} {S : Fp} {h : AH} {t : Tm} {cs : List Value} (x : TmG base f S h t cs) : ∃ k n s a m, cs = termV k n s a m := by
 cases f with
 | zero => exact x.elim
 | succ f => obtain ⟨k, n, s, l⟩ := t; obtain ⟨_, _, a, e, _⟩ := x; exact ⟨k, n, s, a, _, e⟩
end Go.Proofs.Ytjmkbglnjklbcaa.Am
set_option linter.unusedSimpArgs false
set_option linter.unusedVariables false
namespace Go.Proofs.Ytjmkbglnjklbcaa.Am
open Go Go.RowKit
end Go.Proofs.Ytjmkbglnjklbcaa.Am
set_option linter.unusedSimpArgs false
set_option linter.unusedVariables false
namespace Go.Proofs.Ytjmkbglnjklbcaa.Am
open Go Go.RowKit
end Go.Proofs.Ytjmkbglnjklbcaa.Am
set_option linter.unusedSimpArgs false
set_option linter.unusedVariables false
namespace Go.Proofs.Ytjmkbglnjklbcaa.Am
open Go Go.RowKit
end Go.Proofs.Ytjmkbglnjklbcaa.Am
set_option linter.unusedSimpArgs false
set_option linter.unusedVariables false
namespace Go.Proofs.Ytjmkbglnjklbcaa.Am
open Go Go.RowKit
end Go.Proofs.Ytjmkbglnjklbcaa.Am
set_option linter.unusedSimpArgs false
set_option linter.unusedVariables false
namespace Go.Proofs.Ytjmkbglnjklbcaa.Am
open Go Go.RowKit
structure Ac where
 pid : Int
 pc : Int
 regs : List Tm
 box : List Tm
 links : List Int
abbrev acV (p c : Int) (a : Option Addr) (n : Nat) (b : Option Addr) (m : Nat) (g : Option Addr) (q : Nat) : List Value := [.int .i64 p, .int .i64 c, .slice a n n, .slice b m m, .slice g q q]
def AcR (h : AH) (p : Nat → Prop) (f : Nat) (A : Ac) (cs : List Value) : Prop :=
 ∃ a b g, cs = acV A.pid A.pc a A.regs.length b A.box.length g A.links.length ∧ TsR h p f A.regs a ∧ TsR h p f A.box b ∧ Sl h g (iv .i64 A.links) ∧ (A.links = [] ∨ ∀ x, blk g x → p x)
def AcD (base f : Nat) (S : Fp) (h : AH) (A : Ac) (cs : List Value) : Prop :=
 ∃ (a b g : Option Addr) (S1 S2 S3 : Fp), cs = acV A.pid A.pc a A.regs.length b A.box.length g A.links.length ∧ RowD 4 (TmD f) S1 h A.regs a ∧ RowD 4 (TmD f) S2 h A.box b ∧ Own base 3 h g (iv .i64 A.links) ∧ (∀ x, blk g x → S3 x) ∧
  (∀ x, S1 x → S x) ∧ (∀ x, S2 x → S x) ∧ (∀ x, S3 x → S x) ∧ (∀ x, S1 x → ¬ S2 x) ∧ (∀ x, S1 x → ¬ S3 x) ∧ (∀ x, S2 x → ¬ S3 x)
def AcG (base f : Nat) (S : Fp) (h : AH) (A : Ac) (cs : List Value) : Prop :=
 ∃ (a b g : Option Addr) (S1 S2 S3 : Fp), cs = acV A.pid A.pc a A.regs.length b A.box.length g A.links.length ∧ RowO base 39 4 (TmG base f) S1 h A.regs a ∧ RowO base 39 4 (TmG base f) S2 h A.box b ∧ Own base 3 h g (iv .i64 A.links) ∧ (∀ x, blk g x → S3 x) ∧
  (∀ x, S1 x → S x) ∧ (∀ x, S2 x → S x) ∧ (∀ x, S3 x → S x) ∧ (∀ x, S1 x → ¬ S2 x) ∧ (∀ x, S1 x → ¬ S3 x) ∧ (∀ x, S2 x → ¬ S3 x)
theorem AcG.acD {base f : Nat} {S : Fp} {h : AH} {A : Ac} {cs : List Value} (x : AcG base f S h A cs) : AcD base f S h A cs := by
 obtain ⟨a, b, g, S1, S2, S3, e, h1, h2, h3⟩ := x
 exact ⟨a, b, g, S1, S2, S3, e, h1.dT, h2.dT, h3⟩
theorem AcG.kp (base f : Nat) : Kp (AcG base f) := fun S U h h' A cs k hs x => by
 obtain ⟨a, b, g, S1, S2, S3, e, h1, h2, h3, h4, s1, s2, s3, d1, d2, d3⟩ := x
 exact ⟨a, b, g, S1, S2, S3, e, h1.keep (TmG.kp _ _) k fun b hb => hs b (s1 b hb), h2.keep (TmG.kp _ _) k fun b hb => hs b (s2 b hb), h3.keep k fun b hb => hs b (s3 b (h4 b hb)), h4, s1, s2, s3, d1, d2, d3⟩
theorem AcG.mo (base f : Nat) : Mo (AcG base f) := fun S S' h A cs hs x => by
 obtain ⟨a, b, g, S1, S2, S3, e, h1, h2, h3, h4, s1, s2, s3, d1, d2, d3⟩ := x
 exact ⟨a, b, g, S1, S2, S3, e, h1, h2, h3, h4, fun x hx => hs x (s1 x hx), fun x hx => hs x (s2 x hx), fun x hx => hs x (s3 x hx), d1, d2, d3⟩
theorem AcR.keep {h h' : AH} {p S : Nat → Prop} (k : KB S h h') (hp : ∀ b, p b → ¬ S b) {f : Nat} {A : Ac} {cs : List Value} (x : AcR h p f A cs) : AcR h' p f A cs := by
 obtain ⟨a, b, g, e, h1, h2, h3, h4⟩ := x
 refine ⟨a, b, g, e, h1.keep k hp, h2.keep k hp, ?_, h4⟩
 rcases h4 with e | h4
 ·exact .inl (by rw [e]; rfl)
 ·exact h3.keep k fun b hb hs => hp b (h4 b hb) hs
theorem AcD.kp (base f : Nat) : Kp (AcD base f) := fun S U h h' A cs k hs x => by
 obtain ⟨a, b, g, S1, S2, S3, e, h1, h2, h3, h4, s1, s2, s3, d1, d2, d3⟩ := x
 exact ⟨a, b, g, S1, S2, S3, e, h1.keep (TmD.kp _) k fun b hb => hs b (s1 b hb), h2.keep (TmD.kp _) k fun b hb => hs b (s2 b hb), h3.keep k fun b hb => hs b (s3 b (h4 b hb)), h4, s1, s2, s3, d1, d2, d3⟩
theorem AcD.mo (base f : Nat) : Mo (AcD base f) := fun S S' h A cs hs x => by
 obtain ⟨a, b, g, S1, S2, S3, e, h1, h2, h3, h4, s1, s2, s3, d1, d2, d3⟩ := x
 exact ⟨a, b, g, S1, S2, S3, e, h1, h2, h3, h4, fun x hx => hs x (s1 x hx), fun x hx => hs x (s2 x hx), fun x hx => hs x (s3 x hx), d1, d2, d3⟩
theorem TsR.mono {h : AH} {p q : Nat → Prop} (hpq : ∀ b, p b → q b) {f : Nat} {l : List Tm} {a : Option Addr} (x : TsR h p f l a) : TsR h q f l a := by
 obtain ⟨vs, h1, h2, h3, h4⟩ := x
 exact ⟨vs, h1, h2.imp id fun g b hb => hpq b (g b hb), h3, fun i t hi => TmR.mono hpq f t _ (h4 i t hi)⟩
theorem AcD.form {base f : Nat} {S : Fp} {h : AH} {A : Ac} {cs : List Value} (x : AcD base f S h A cs) : ∃ p c a n b m g q, cs = acV p c a n b m g q := by
 obtain ⟨a, b, g, S1, S2, S3, e, _⟩ := x
 exact ⟨_, _, _, _, _, _, _, _, e⟩
theorem AcG.form {base f : Nat} {S : Fp} {h : AH} {A : Ac} {cs : List Value} (x : AcG base f S h A cs) : ∃ p c a n b m g q, cs = acV p c a n b m g q := x.acD.form
theorem q5 {base t n : Nat} {h : AH} {p c : Int} {a b g : Option Addr} {x y z : Nat} (o : Own base t h (at0 n) (acV p c a x b y g z)) {β : Type} {f : Int → Int → Option Addr × Nat → Option Addr × Nat → Option Addr × Nat → Option β} {r : Option β} (hf : f p c (a, x) (b, y) (g, z) = r) :
  (((Am.cell h n 0).bind (getI .i64)).bind fun n1 => ((Am.cell h n 1).bind (getI .i64)).bind fun n2 => ((Am.cell h n 2).bind getS).bind fun l3 => ((Am.cell h n 3).bind getS).bind fun l4 => ((Am.cell h n 4).bind getS).bind fun l5 => f n1 n2 l3 l4 l5) = r :=
 bI (o.at0 (i := 0) rfl) (bI (o.at0 (i := 1) rfl) (bS (o.at0 (i := 2) rfl) (bS (o.at0 (i := 3) rfl) (bS (o.at0 (i := 4) rfl) hf))))
end Go.Proofs.Ytjmkbglnjklbcaa.Am
set_option linter.unusedSimpArgs false
set_option linter.unusedVariables false
namespace Go.Proofs.Ytjmkbglnjklbcaa.Am
open Go Go.RowKit
theorem W.q4 {base t n : Nat} {h : AH} {k nn : Int} {s : ByteArray} {a : Option Addr} {m : Nat} (o : Own base t h (at0 n) (termV k nn s a m)) {β : Type} {Q : β → Prop} {f : Int → Int → ByteArray → Option Addr × Nat → Option β} (w : Wp (f k nn s (a, m)) Q) :
  Wp (((Am.cell h n 0).bind (getI .i64)).bind fun n1 => ((Am.cell h n 1).bind (getI .i64)).bind fun n2 => ((Am.cell h n 2).bind getStr).bind fun s3 => ((Am.cell h n 3).bind getS).bind fun l4 => f n1 n2 s3 l4) Q :=
 W.bI (o.at0 (i := 0) rfl) (W.bI (o.at0 (i := 1) rfl) (W.bT (o.at0 (i := 2) rfl) (W.bS (o.at0 (i := 3) rfl) w)))
theorem W.q5 {base t n : Nat} {h : AH} {p c : Int} {a b g : Option Addr} {x y z : Nat} (o : Own base t h (at0 n) (acV p c a x b y g z)) {β : Type} {Q : β → Prop} {f : Int → Int → Option Addr × Nat → Option Addr × Nat → Option Addr × Nat → Option β} (w : Wp (f p c (a, x) (b, y) (g, z)) Q) :
  Wp (((Am.cell h n 0).bind (getI .i64)).bind fun n1 => ((Am.cell h n 1).bind (getI .i64)).bind fun n2 => ((Am.cell h n 2).bind getS).bind fun l3 => ((Am.cell h n 3).bind getS).bind fun l4 => ((Am.cell h n 4).bind getS).bind fun l5 => f n1 n2 l3 l4 l5) Q :=
 W.bI (o.at0 (i := 0) rfl) (W.bI (o.at0 (i := 1) rfl) (W.bS (o.at0 (i := 2) rfl) (W.bS (o.at0 (i := 3) rfl) (W.bS (o.at0 (i := 4) rfl) w))))
theorem W.g4 {k nn : Int} {s : ByteArray} {a : Option Addr} {m : Nat} {β : Type} {Q : β → Prop} {f : Int → Int → ByteArray → Option Addr × Nat → Option β} (w : Wp (f k nn s (a, m)) Q) :
  Wp (((some (Value.agg (termV k nn s a m).toArray)).bind (getAgg 4)).bind fun l => ((l[0]?).bind (getI .i64)).bind fun n1 => ((l[1]?).bind (getI .i64)).bind fun n2 => ((l[2]?).bind getStr).bind fun s3 => ((l[3]?).bind getS).bind fun l4 => f n1 n2 s3 l4) Q := w
theorem ne_A {b o n : Nat} (h : b ≠ n) : neA (some ⟨b, o, none⟩) n := fun ad e => by
 injection e with e
 subst e
 exact h
end Go.Proofs.Ytjmkbglnjklbcaa.Am
set_option linter.unusedSimpArgs false
set_option linter.unusedVariables false
namespace Go.Proofs.Ytjmkbglnjklbcaa.Am
open Go Go.RowKit
def inB (x a b : Int) : Bool := decide (x ≥ a) && decide (x ≤ b)
theorem in_run {base : Nat} {h : AH} {x a b : Int} : run (Et base) 87 [.int .i64 x, .int .i64 a, .int .i64 b] h = some (.bool (inB x a b), h) := by
 refine Am.r87 ?_
 unfold inB
 by_cases c : x ≥ a
 ·exact ifT (decide_eq_true c) (by simp [c])
 ·exact ifF (by simpa using c) (by simp [c])
theorem l1In_run {base : Nat} {h : AH} {x a b : Int} : run (Et base) 83 [.int .i64 x, .int .i64 a, .int .i64 b] h = some (.bool (inB x a b), h) := by
 refine Am.r83 ?_
 unfold inB
 by_cases c : x ≥ a
 ·exact ifT (decide_eq_true c) (by simp [c])
 ·exact ifF (by simpa using c) (by simp [c])
def byt (s : ByteArray) (i : Nat) : Int := ((s.data.toList.getD i 0).toNat : Int)
def badAt (s : ByteArray) (i : Nat) : Bool := !inB (byt s i) 97 122 && (((i : Int) == 0) || !inB (byt s i) 48 57)
def anyBad (s : ByteArray) : Nat → Nat → Bool
 | 0, _ => false
 | d + 1, i => badAt s i || anyBad s d (i + 1)
def atomOk (s : ByteArray) : Bool := !anyBad s s.size 0 && inB (s.size : Int) 1 12
def shB (k n : Int) (s : ByteArray) (m : Nat) : Bool :=
 if (k == (1 : Int)) = true then inB n (-1000000) 1000000 && (s.toList == (⟨#[]⟩ : ByteArray).toList) && (((m : Nat) : Int) == (0 : Int))
 else if (k == (2 : Int)) = true then (n == (0 : Int)) && atomOk s && (((m : Nat) : Int) == (0 : Int))
 else if (k == (3 : Int)) = true then inB n 0 99999 && (s.toList == (⟨#[]⟩ : ByteArray).toList) && (((m : Nat) : Int) == (0 : Int))
 else if (k == (4 : Int)) = true then (n == (0 : Int)) && (s.toList == (⟨#[]⟩ : ByteArray).toList) && decide (((m : Nat) : Int) ≤ (8 : Int))
 else if (k == (5 : Int)) = true then (n == (0 : Int)) && (s.toList == (⟨#[]⟩ : ByteArray).toList) && decide (((m : Nat) : Int) ≤ (20 : Int))
 else if (k == (6 : Int)) = true then (n == (0 : Int)) && decide ((s.size : Int) ≤ (40 : Int)) && (((m : Nat) : Int) == (0 : Int))
 else false
end Go.Proofs.Ytjmkbglnjklbcaa.Am
set_option linter.unusedSimpArgs false
set_option linter.unusedVariables false
namespace Go.Proofs.Ytjmkbglnjklbcaa.Am
open Go Go.RowKit
def lkS (g : Tm → Int → Int → Int) : List Tm → Int → Int → Int
 | [], _, left => left
 | t :: r, deep, left => if left ≥ 0 then lkS g r deep (g t deep left) else left
def lk : Nat → Tm → Int → Int → Int
 | 0, _, _, _ => -1
 | f + 1, .mk k n s l, deep, left => if deep < 1 ∨ left < 1 ∨ shB k n s l.length = false then -1 else lkS (lk f) l (deep - 1) (left - 1)
theorem lkS_neg (g : Tm → Int → Int → Int) (l : List Tm) (deep left : Int) (h : left < 0) : lkS g l deep left = left := by
 cases l with
 | nil => rfl
 | cons t r => rw [lkS, if_neg (by omega)]
theorem lkS_le {g : Tm → Int → Int → Int} (hg : ∀ t d x, 0 ≤ x → -1 ≤ g t d x ∧ g t d x ≤ x) : ∀ (l : List Tm) (deep left : Int), -1 ≤ left → -1 ≤ lkS g l deep left ∧ lkS g l deep left ≤ left
 | [], _, left, h => ⟨h, Int.le_refl _⟩
 | t :: r, deep, left, h => by
  rw [lkS]
  split
  ·rename_i h0
   have a := hg t deep left h0
   have b := lkS_le hg r deep (g t deep left) a.1
   exact ⟨b.1, by omega⟩
  ·exact ⟨h, Int.le_refl _⟩
theorem lk_le : ∀ (f : Nat) (t : Tm) (deep left : Int), 0 ≤ left → -1 ≤ lk f t deep left ∧ lk f t deep left ≤ left
 | 0, _, _, left, h => ⟨by simp [lk], by simp only [lk]; omega⟩
 | f + 1, .mk k n s l, deep, left, h => by
  rw [lk]
  split
  ·exact ⟨by omega, by omega⟩
  ·rename_i hn
   have := lkS_le (g := lk f) (fun t d x hx => lk_le f t d x hx) l (deep - 1) (left - 1) (by omega)
   exact ⟨this.1, by omega⟩
theorem q4 {base t n : Nat} {h : AH} {k nn : Int} {s : ByteArray} {a : Option Addr} {m : Nat} (o : Own base t h (at0 n) (termV k nn s a m)) {β : Type} {f : Int → Int → ByteArray → Option Addr × Nat → Option β} {z : Option β} (hf : f k nn s (a, m) = z) :
  (((Am.cell h n 0).bind (getI .i64)).bind fun n1 => ((Am.cell h n 1).bind (getI .i64)).bind fun n2 => ((Am.cell h n 2).bind getStr).bind fun s3 => ((Am.cell h n 3).bind getS).bind fun l4 => f n1 n2 s3 l4) = z :=
 bI (o.at0 (i := 0) rfl) (bI (o.at0 (i := 1) rfl) (bT (o.at0 (i := 2) rfl) (bS (o.at0 (i := 3) rfl) hf)))
def tOk (f : Nat) (t : Tm) : Bool := decide (lk f t 6 100 ≥ 0)
end Go.Proofs.Ytjmkbglnjklbcaa.Am
set_option linter.unusedSimpArgs false
set_option linter.unusedVariables false
namespace Go.Proofs.Ytjmkbglnjklbcaa.Am
open Go Go.RowKit
end Go.Proofs.Ytjmkbglnjklbcaa.Am
set_option linter.unusedSimpArgs false
set_option linter.unusedVariables false
namespace Go.Proofs.Ytjmkbglnjklbcaa.Am
open Go Go.RowKit
structure In where
 op : Int
 a : Int
 b : Int
 c : Int
 n : Int
 s : ByteArray
abbrev inV (x : In) : List Value := [.int .i64 x.op, .int .i64 x.a, .int .i64 x.b, .int .i64 x.c, .int .i64 x.n, .string x.s]
def insR : List In → List Value
 | [] => []
 | x :: r => inV x ++ insR r
theorem insR_get : ∀ {l : List In} {i j : Nat} {x : In}, l[i]? = some x → j < 6 → (insR l)[i * 6 + j]? = (inV x)[j]?
 | [], i, j, x, h, _ => by simp at h
 | y :: r, 0, j, x, h, hj => by
  simp at h
  subst h
  rw [insR, List.getElem?_append_left (by simp; omega)]
  simp
 | y :: r, i + 1, j, x, h, hj => by
  rw [insR, List.getElem?_append_right (by simp; omega)]
  simp only [List.getElem?_cons_succ] at h
  rw [show (i + 1) * 6 + j - (inV y).length = i * 6 + j from by simp; omega]
  exact insR_get h hj
theorem In.get {h : AH} {a : Option Addr} {l : List In} (x : Sl h a (insR l)) {i : Nat} (hi : i < l.length) :
  ∃ ad, a = some ad ∧ Am.cell h ad.block (ad.off + i * 6) = some (.int .i64 l[i].op) ∧ Am.cell h ad.block (ad.off + i * 6 + 1) = some (.int .i64 l[i].a) ∧ Am.cell h ad.block (ad.off + i * 6 + 1 + 1) = some (.int .i64 l[i].b) ∧ Am.cell h ad.block (ad.off + i * 6 + 1 + 1 + 1) = some (.int .i64 l[i].c) ∧
   Am.cell h ad.block (ad.off + i * 6 + 1 + 1 + 1 + 1) = some (.int .i64 l[i].n) ∧ Am.cell h ad.block (ad.off + i * 6 + 1 + 1 + 1 + 1 + 1) = some (.string l[i].s) := by
 have g := fun (j : Nat) (v : Value) (hj : j < 6) (hv : (inV l[i])[j]? = some v) => x.cell ((insR_get (List.getElem?_eq_getElem hi) hj).trans hv)
 obtain ⟨ad, rfl, g0⟩ := g 0 _ (by decide) rfl
 obtain ⟨ad1, e, g1⟩ := g 1 _ (by decide) rfl
 injection e with e; subst e
 obtain ⟨ad1, e, g2⟩ := g 2 _ (by decide) rfl
 injection e with e; subst e
 obtain ⟨ad1, e, g3⟩ := g 3 _ (by decide) rfl
 injection e with e; subst e
 obtain ⟨ad1, e, g4⟩ := g 4 _ (by decide) rfl
 injection e with e; subst e
 obtain ⟨ad1, e, g5⟩ := g 5 _ (by decide) rfl
 injection e with e; subst e
 exact ⟨ad, rfl, g0, by rw [Nat.add_assoc]; exact g1, by rw [Nat.add_assoc, Nat.add_assoc]; exact g2, by rw [Nat.add_assoc, Nat.add_assoc, Nat.add_assoc]; exact g3, by rw [Nat.add_assoc, Nat.add_assoc, Nat.add_assoc, Nat.add_assoc]; exact g4, by rw [Nat.add_assoc, Nat.add_assoc, Nat.add_assoc, Nat.add_assoc, Nat.add_assoc]; exact g5⟩
end Go.Proofs.Ytjmkbglnjklbcaa.Am
set_option linter.unusedSimpArgs false
set_option linter.unusedVariables false
namespace Go.Proofs.Ytjmkbglnjklbcaa.Am
open Go Go.RowKit
end Go.Proofs.Ytjmkbglnjklbcaa.Am
set_option linter.unusedSimpArgs false
set_option linter.unusedVariables false
namespace Go.Proofs.Ytjmkbglnjklbcaa.Am
open Go Go.RowKit
end Go.Proofs.Ytjmkbglnjklbcaa.Am
set_option linter.unusedSimpArgs false
set_option linter.unusedVariables false
namespace Go.Proofs.Ytjmkbglnjklbcaa.Am
open Go Go.RowKit
end Go.Proofs.Ytjmkbglnjklbcaa.Am
set_option linter.unusedSimpArgs false
set_option linter.unusedVariables false
namespace Go.Proofs.Ytjmkbglnjklbcaa.Am
open Go Go.RowKit
end Go.Proofs.Ytjmkbglnjklbcaa.Am
set_option linter.unusedSimpArgs false
set_option linter.unusedVariables false
namespace Go.Proofs.Ytjmkbglnjklbcaa.Am
open Go Go.RowKit
end Go.Proofs.Ytjmkbglnjklbcaa.Am
set_option linter.unusedSimpArgs false
set_option linter.unusedVariables false
namespace Go.Proofs.Ytjmkbglnjklbcaa.Am
open Go Go.RowKit
theorem TsR.getT {h : AH} {p : Nat → Prop} {f : Nat} {l : List Tm} {a : Option Addr} (x : TsR h p f l a) {i : Nat} (hi : i < l.length) :
  ∃ ad k n s a2 m, a = some ad ∧ Am.cell h ad.block (ad.off + i * 4) = some (.int .i64 k) ∧ Am.cell h ad.block (ad.off + i * 4 + 1) = some (.int .i64 n) ∧ Am.cell h ad.block (ad.off + i * 4 + 1 + 1) = some (.string s) ∧ Am.cell h ad.block (ad.off + i * 4 + 1 + 1 + 1) = some (.slice a2 m m) ∧ TmR h p f l[i] (termV k n s a2 m) := by
 obtain ⟨ad, c0, c1, c2, c3, e, g0, g1, g2, g3, hm⟩ := x.get hi
 obtain ⟨k, n, s, a2, m, e2⟩ := hm.form
 injection e2 with q0 e2
 injection e2 with q1 e2
 injection e2 with q2 e2
 injection e2 with q3 _
 subst q0; subst q1; subst q2; subst q3
 exact ⟨ad, k, n, s, a2, m, e, g0, g1, g2, g3, hm⟩
end Go.Proofs.Ytjmkbglnjklbcaa.Am
set_option linter.unusedSimpArgs false
set_option linter.unusedVariables false
namespace Go.Proofs.Ytjmkbglnjklbcaa.Am
open Go Go.RowKit
abbrev Ds := List (Nat × Nat × List Value)
structure Rs where
 S : Fp
 mu : Bool
 A : AH → Prop
def Rs.Ok (r : Rs) : Prop := ∀ (U : Fp) (h h' : AH), KB U h h' → (∀ b, r.S b → ¬ U b) → r.A h → r.A h'
def Rs.dj (r s : Rs) : Prop := (r.mu || s.mu) = true → ∀ b, r.S b → ¬ s.S b
theorem Rs.dj.symm {r s : Rs} (x : r.dj s) : s.dj r := fun e b h1 h2 => x (by rw [Bool.or_comm]; exact e) b h2 h1
structure Hs (base : Nat) (W : Fp) (h0 h : AH) (D : Ds) (R : List Rs) : Prop where
 ge : base ≤ h.length
 kb : KB W h0 h
 own : ∀ x ∈ D, Own base x.2.1 h (at0 x.1) x.2.2 ∧ (W x.1 ∨ h0.length ≤ x.1)
 nd : (D.map (·.1)).Nodup
 res : ∀ r ∈ R, r.A h ∧ r.Ok ∧ (∀ b, r.S b → b < h.length) ∧ (r.mu = true → ∀ b, r.S b → W b ∨ h0.length ≤ b) ∧ ∀ x ∈ D, ¬ r.S x.1
 dj : R.Pairwise Rs.dj
inductive Upd {α : Type} : List α → α → α → List α → Prop
 | here {x y : α} {l : List α} : Upd (x :: l) x y (y :: l)
 | there {x y z : α} {l l' : List α} : Upd l x y l' → Upd (z :: l) x y (z :: l')
theorem Upd.mem {α : Type} {l l' : List α} {x y : α} (u : Upd l x y l') : x ∈ l := by
 induction u with
 | here => exact .head _
 | there _ ih => exact .tail _ ih
theorem Upd.of {α : Type} {l l' : List α} {x y : α} (u : Upd l x y l') : ∀ z ∈ l', z = y ∨ z ∈ l := by
 induction u with
 | here => exact fun z hz => (List.mem_cons.1 hz).imp id fun h => .tail _ h
 | there _ ih =>
  intro z hz
  rcases List.mem_cons.1 hz with rfl | hz
  ·exact .inr (.head _)
  ·exact (ih z hz).imp id fun h => .tail _ h
theorem Upd.fst {l l' : Ds} {x y : Nat × Nat × List Value} (u : Upd l x y l') (e : x.1 = y.1) : l'.map (·.1) = l.map (·.1) := by
 induction u with
 | here => simp [e]
 | there _ ih => simp [ih e]
theorem Upd.others {l l' : Ds} {x y : Nat × Nat × List Value} (u : Upd l x y l') (e : x.1 = y.1) (nd : (l.map (·.1)).Nodup) : ∀ z ∈ l', z = y ∨ (z ∈ l ∧ z.1 ≠ x.1) := by
 induction u with
 | @here x y l =>
  intro z hz
  rcases List.mem_cons.1 hz with rfl | hz
  ·exact .inl rfl
  ·refine .inr ⟨.tail _ hz, fun h => ?_⟩
   have := (List.nodup_cons.1 nd).1
   exact this (List.mem_map.2 ⟨z, hz, h⟩)
 | @there x y w l l' u ih =>
  have nd' := List.nodup_cons.1 nd
  intro z hz
  rcases List.mem_cons.1 hz with rfl | hz
  ·refine .inr ⟨.head _, fun h => nd'.1 (List.mem_map.2 ⟨_, u.mem, h.symm⟩)⟩
  ·exact (ih e nd'.2 z hz).imp id fun h => ⟨.tail _ h.1, h.2⟩
theorem Upd.pair {l l' : List Rs} {x y : Rs} (u : Upd l x y l') (p : l.Pairwise Rs.dj) (hy : ∀ z ∈ l, z.dj x → z.dj y) : l'.Pairwise Rs.dj := by
 induction u with
 | @here x y l =>
  rw [List.pairwise_cons] at p ⊢
  exact ⟨fun z hz => (hy z (.tail _ hz) (p.1 z hz).symm).symm, p.2⟩
 | @there x y w l l' u ih =>
  rw [List.pairwise_cons] at p ⊢
  refine ⟨fun z hz => ?_, ih p.2 fun z hz => hy z (.tail _ hz)⟩
  rcases u.of z hz with rfl | hz
  ·exact hy w (.head _) (p.1 _ u.mem)
  ·exact p.1 z hz
theorem Upd.at {α : Type} {l : List α} {x : α} : ∀ {i : Nat}, l[i]? = some x → ∀ {y : α}, Upd l x y (l.set i y) := by
 induction l with
 | nil => intro i e; simp at e
 | cons z l ih =>
  intro i e y
  cases i with
  | zero => simp at e; subst e; exact .here
  | succ i => exact .there (ih (by simpa using e))
inductive Del {α : Type} : List α → α → List α → Prop
 | here {x : α} {l : List α} : Del (x :: l) x l
 | there {x z : α} {l l' : List α} : Del l x l' → Del (z :: l) x (z :: l')
theorem Del.at {α : Type} {l : List α} {x : α} : ∀ {i : Nat}, l[i]? = some x → Del l x (l.eraseIdx i) := by
 induction l with
 | nil => intro i e; simp at e
 | cons z l ih =>
  intro i e
  cases i with
  | zero => simp at e; subst e; exact .here
  | succ i => exact .there (ih (by simpa using e))
theorem Del.mem {α : Type} {l l' : List α} {x : α} (u : Del l x l') : x ∈ l := by
 induction u with
 | here => exact .head _
 | there _ ih => exact .tail _ ih
theorem Del.of {α : Type} {l l' : List α} {x : α} (u : Del l x l') : ∀ z ∈ l', z ∈ l := by
 induction u with
 | here => exact fun z hz => .tail _ hz
 | there _ ih =>
  intro z hz
  rcases List.mem_cons.1 hz with rfl | hz
  ·exact .head _
  ·exact .tail _ (ih z hz)
theorem Del.others {l l' : Ds} {x : Nat × Nat × List Value} (u : Del l x l') (nd : (l.map (·.1)).Nodup) : (l'.map (·.1)).Nodup ∧ ∀ z ∈ l', z.1 ≠ x.1 := by
 induction u with
 | @here x l =>
  have nd := List.nodup_cons.1 nd
  exact ⟨nd.2, fun z hz e => nd.1 (List.mem_map.2 ⟨z, hz, e⟩)⟩
 | @there x z l l' u ih =>
  have nd := List.nodup_cons.1 nd
  obtain ⟨h1, h2⟩ := ih nd.2
  refine ⟨List.nodup_cons.2 ⟨fun hm => ?_, h1⟩, fun y hy => ?_⟩
  ·obtain ⟨y, hy, e⟩ := List.mem_map.1 hm
   exact nd.1 (List.mem_map.2 ⟨y, u.of y hy, e⟩)
  ·rcases List.mem_cons.1 hy with rfl | hy
   ·exact fun e => nd.1 (List.mem_map.2 ⟨_, u.mem, e.symm⟩)
   ·exact h2 y hy
theorem Upd.key {l l' : List Rs} {r r' : Rs} (u : Upd l r r' l') : l.Pairwise Rs.dj → ∀ s ∈ l', s = r' ∨ (s ∈ l ∧ s.dj r) := by
 induction u with
 | @here x y l =>
  intro p s hs
  rw [List.pairwise_cons] at p
  rcases List.mem_cons.1 hs with rfl | hs
  ·exact .inl rfl
  ·exact .inr ⟨.tail _ hs, (p.1 s hs).symm⟩
 | @there x y w l l' u ih =>
  intro p s hs
  rw [List.pairwise_cons] at p
  rcases List.mem_cons.1 hs with rfl | hs
  ·exact .inr ⟨.head _, p.1 _ u.mem⟩
  ·exact (ih p.2 s hs).imp id fun h => ⟨.tail _ h.1, h.2⟩
theorem Upd.off {l l' : List Rs} {s e : Rs} (u : Upd l s e l') (he : ∀ b, ¬ e.S b) (ms : s.mu = true) : l.Pairwise Rs.dj → ∀ z ∈ l', ∀ b, z.S b → ¬ s.S b := by
 induction u with
 | @here x y l =>
  intro p z hz b h1 h2
  rw [List.pairwise_cons] at p
  rcases List.mem_cons.1 hz with rfl | hz
  ·exact he b h1
  ·exact p.1 z hz (by rw [ms]; simp) b h2 h1
 | @there x y w l l' u ih =>
  intro p z hz b h1 h2
  rw [List.pairwise_cons] at p
  rcases List.mem_cons.1 hz with rfl | hz
  ·exact p.1 _ u.mem (by rw [ms]; simp) b h1 h2
  ·exact ih he ms p.2 z hz b h1 h2
theorem Upd.two {α : Type} {l l' : List α} {x y : α} (z : α) (u : Upd l x y l') : ∃ m, Upd l x z m ∧ Upd m z y l' := by
 induction u with
 | here => exact ⟨_, .here, .here⟩
 | there u ih =>
  obtain ⟨m, h1, h2⟩ := ih
  exact ⟨_, .there h1, .there h2⟩
namespace Hs
variable {base : Nat} {W : Fp} {h0 h : AH} {D : Ds} {R : List Rs}
theorem start (hb : base ≤ h.length) : Hs base NoB h h [] [] := ⟨hb, KB.refl _ _, fun x hx => (nomatch hx), by simp, fun r hr => (nomatch hr), .nil⟩
theorem inp (d : Hs base W h0 h D R) (S : Fp) (A : AH → Prop) (hA : A h) (ok : ∀ (U : Fp) (h h' : AH), KB U h h' → (∀ b, S b → ¬ U b) → A h → A h') (lt : ∀ b, S b → b < h.length) (hD : ∀ x ∈ D, ¬ S x.1) (hR : R.all (fun r => !r.mu) = true) : Hs base W h0 h D (R ++ [⟨S, false, A⟩]) := by
 refine ⟨d.ge, d.kb, d.own, d.nd, fun r hr => ?_, ?_⟩
 ·rcases List.mem_append.1 hr with hr | hr
  ·exact d.res r hr
  ·rw [List.mem_singleton] at hr
   subst hr
   exact ⟨hA, ok, lt, fun h => (nomatch h), hD⟩
 ·rw [List.pairwise_append]
  refine ⟨d.dj, by simp, fun r hr s hs => ?_⟩
  rw [List.mem_singleton] at hs
  subst hs
  intro e
  have := List.all_eq_true.1 hR r hr
  simp only [Bool.or_false] at e
  rw [e] at this
  cases this
theorem keep {U : Fp} {h' : AH} (d : Hs base W h0 h D R) (k : KB U h h') (h1 : ∀ b, U b → b < h.length → W b ∨ h0.length ≤ b) (h2 : ∀ x ∈ D, ¬ U x.1) (h3 : ∀ r ∈ R, ∀ b, r.S b → ¬ U b) : Hs base W h0 h' D R := by
 refine ⟨Nat.le_trans d.ge k.1, KB.trans d.kb k (fun _ _ h => h) (fun i hi hu => ?_), fun x hx => ⟨(d.own x hx).1.keep k fun b hb hu => h2 x hx ((blk_at0.1 hb) ▸ hu), (d.own x hx).2⟩, d.nd, fun r hr => ?_, d.dj⟩
 ·rcases h1 i hu (Nat.lt_of_lt_of_le hi d.kb.1) with h | h
  ·exact h
  ·exact absurd hi (by omega)
 ·obtain ⟨r1, r2, r3, r4⟩ := d.res r hr
  exact ⟨r2 U h h' k (h3 r hr) r1, r2, fun b hb => Nat.lt_of_lt_of_le (r3 b hb) k.1, r4⟩
theorem kN {h' : AH} (d : Hs base W h0 h D R) (k : KB NoB h h') : Hs base W h0 h' D R := d.keep k (fun _ h => h.elim) (fun _ _ h => h) (fun _ _ _ _ h => h)
theorem call {h' : AH} (d : Hs base W h0 h D R) (k : KB NoB h h') (S : Fp) (A : AH → Prop) (hA : A h') (ok : ∀ (U : Fp) (h h' : AH), KB U h h' → (∀ b, S b → ¬ U b) → A h → A h') (hS : ∀ b, S b → h.length ≤ b ∧ b < h'.length) : Hs base W h0 h' D (R ++ [⟨S, true, A⟩]) := by
 have d' := d.kN k
 refine ⟨d'.ge, d'.kb, d'.own, d'.nd, fun r hr => ?_, ?_⟩
 ·rcases List.mem_append.1 hr with hr | hr
  ·exact d'.res r hr
  ·rw [List.mem_singleton] at hr
   subst hr
   refine ⟨hA, ok, fun b hb => (hS b hb).2, fun _ b hb => .inr ?_, fun x hx hS' => ?_⟩
   ·have := (hS b hb).1
    have := d.kb.1
    omega
   ·have := ((d.own x hx).1.lt (blk_at0.2 rfl)).2
    have := (hS _ hS').1
    omega
 ·rw [List.pairwise_append]
  refine ⟨d'.dj, by simp, fun r hr s hs e b h1 h2 => ?_⟩
  rw [List.mem_singleton] at hs
  subst hs
  have := (d.res r hr).2.2.1 b h1
  have := (hS b h2).1
  omega
theorem rs (d : Hs base W h0 h D R) {i : Nat} {r : Rs} (e : R[i]? = some r) : r.A h := (d.res r (List.mem_of_getElem? e)).1
theorem rlt (d : Hs base W h0 h D R) {i : Nat} {r : Rs} (e : R[i]? = some r) : ∀ b, r.S b → b < h.length := (d.res r (List.mem_of_getElem? e)).2.2.1
theorem rfr (d : Hs base W h0 h D R) {i : Nat} {r : Rs} (e : R[i]? = some r) (m : r.mu = true) : ∀ b, r.S b → W b ∨ h0.length ≤ b := (d.res r (List.mem_of_getElem? e)).2.2.2.1 m
theorem getI {b t o : Nat} {cs : List Value} {v : Value} (d : Hs base W h0 h D R) (m : (b, t, cs) ∈ D) (e : cs[o]? = some v) : Am.cell h b o = some v := (d.own _ m).1.at0 e
theorem lt {b t : Nat} {cs : List Value} (d : Hs base W h0 h D R) (m : (b, t, cs) ∈ D) : b < h.length := ((d.own _ m).1.lt (blk_at0.2 rfl)).2
theorem ol {b t : Nat} {cs : List Value} (d : Hs base W h0 h D R) (m : (b, t, cs) ∈ D) : Own base t h (at0 b) cs := (d.own _ m).1
theorem new (d : Hs base W h0 h D R) (t : Nat) (cs : List Value) : Hs base W h0 (h ++ [some ⟨cs, t⟩]) ((h.length, t, cs) :: D) R := by
 obtain ⟨o1, k1, q1⟩ := box_own (base := base) (t := t) (h := h) (cs := cs) d.ge rfl
 have d' := d.kN k1
 refine ⟨d'.ge, d'.kb, fun x hx => ?_, ?_, fun r hr => ?_, d'.dj⟩
 ·rcases List.mem_cons.1 hx with rfl | hx
  ·exact ⟨o1, .inr d.kb.1⟩
  ·exact d'.own x hx
 ·rw [List.map_cons, List.nodup_cons]
  refine ⟨fun hm => ?_, d'.nd⟩
  obtain ⟨x, hx, e⟩ := List.mem_map.1 hm
  have := ((d.own x hx).1.lt (blk_at0.2 rfl)).2
  simp only at e
  omega
 ·obtain ⟨r1, r2, r3, r4, r5⟩ := d'.res r hr
  refine ⟨r1, r2, r3, r4, fun x hx hS => ?_⟩
  rcases List.mem_cons.1 hx with rfl | hx
  ·have := (d.res r hr).2.2.1 _ hS
   simp only at this
   omega
  ·exact r5 x hx hS
theorem wr {b t o : Nat} {cs new : List Value} {D' : Ds} (d : Hs base W h0 h D R) (u : Upd D (b, t, cs) (b, t, setAt cs o new) D') (hi : o + new.length ≤ cs.length) (hz : 0 < new.length) :
  ∃ h1, Am.wr base h b o new = some h1 ∧ Hs base W h0 h1 D' R ∧ h1.length = h.length ∧ KB (· = b) h h1 := by
 obtain ⟨h1, e, o1, k1, l1⟩ := ((d.own _ u.mem).1).wr0 hi hz
 refine ⟨h1, e, ⟨by rw [l1]; exact d.ge, KB.trans d.kb k1 (fun _ _ h => h) (fun i hi hu => ?_), fun x hx => ?_, ?_, fun r hr => ?_, d.dj⟩, l1, k1⟩
 ·simp only at hu
  subst hu
  rcases (d.own _ u.mem).2 with h | h
  ·exact h
  ·simp only at h; omega
 ·rcases u.others rfl d.nd x hx with rfl | ⟨hx, hne⟩
  ·exact ⟨o1, (d.own _ u.mem).2⟩
  ·exact ⟨(d.own x hx).1.keepB k1 fun i hi => (blk_at0.1 hi) ▸ hne, (d.own x hx).2⟩
 ·rw [u.fst rfl]; exact d.nd
 ·obtain ⟨r1, r2, r3, r4, r5⟩ := d.res r hr
  refine ⟨r2 _ _ _ k1 (fun i hS hi => ?_) r1, r2, fun b hb => by rw [l1]; exact r3 b hb, r4, fun x hx => ?_⟩
  ·simp only at hi
   subst hi
   exact r5 _ u.mem hS
  ·rcases u.others rfl d.nd x hx with rfl | ⟨hx, _⟩
   ·exact fun h => r5 _ u.mem h
   ·exact r5 x hx
theorem upd {U : Fp} {h' : AH} {r r' : Rs} {R' : List Rs} (d : Hs base W h0 h D R) (u : Upd R r r' R') (m : r.mu = true) (m' : r'.mu = true) (k : KB U h h') (hU : ∀ b, U b → r.S b ∨ h.length ≤ b) (hA : r'.A h') (ok : r'.Ok) (hS : ∀ b, r'.S b → r.S b ∨ (h.length ≤ b ∧ b < h'.length)) : Hs base W h0 h' D R' := by
 obtain ⟨r1, r2, r3, r4, r5⟩ := d.res r u.mem
 have hb := d.kb.1
 have hUD : ∀ x ∈ D, ¬ U x.1 := fun x hx hu => by
  have := ((d.own x hx).1.lt (blk_at0.2 rfl)).2
  rcases hU _ hu with h | h
  ·exact r5 x hx h
  ·omega
 refine ⟨Nat.le_trans d.ge k.1, KB.trans d.kb k (fun _ _ h => h) (fun i hi hu => ?_), fun x hx => ⟨(d.own x hx).1.keep k fun b hb hu => hUD x hx ((blk_at0.1 hb) ▸ hu), (d.own x hx).2⟩, d.nd, ?_, ?_⟩
 ·rcases hU i hu with h | h
  ·exact (r4 m i h).resolve_right (by omega)
  ·omega
 ·intro s hs
  rcases u.key d.dj s hs with rfl | ⟨hs, hd⟩
  ·refine ⟨hA, ok, fun b hb => ?_, fun _ b hb => ?_, fun x hx hS' => ?_⟩
   ·rcases hS b hb with h | h
    ·exact Nat.lt_of_lt_of_le (r3 b h) k.1
    ·exact h.2
   ·rcases hS b hb with h | h
    ·exact r4 m b h
    ·exact .inr (by omega)
   ·have := ((d.own x hx).1.lt (blk_at0.2 rfl)).2
    rcases hS _ hS' with h | h
    ·exact r5 x hx h
    ·omega
  ·obtain ⟨s1, s2, s3, s4, s5⟩ := d.res s hs
   refine ⟨s2 U h h' k (fun b hb hu => ?_) s1, s2, fun b hb => Nat.lt_of_lt_of_le (s3 b hb) k.1, s4, s5⟩
   rcases hU b hu with h | h
   ·exact hd (by rw [m]; simp) b hb h
   ·have := s3 b hb; omega
 ·refine u.pair d.dj fun z hz hd e b h1 h2 => ?_
  rcases hS b h2 with h | h
  ·exact hd (by rw [m]; simp) b h1 h
  ·have := (d.res z hz).2.2.1 b h1; omega
theorem re {r r' : Rs} {R' : List Rs} (d : Hs base W h0 h D R) (u : Upd R r r' R') (m : r.mu = true) (m' : r'.mu = true) (hA : r'.A h) (ok : r'.Ok) (hS : ∀ b, r'.S b → r.S b) : Hs base W h0 h D R' :=
 d.upd u m m' (KB.refl NoB h) (fun _ h => h.elim) hA ok fun b hb => .inl (hS b hb)
theorem join {U : Fp} {h' : AH} {r s r' : Rs} {R1 R2 : List Rs} (d : Hs base W h0 h D R) (us : Upd R s ⟨fun _ => False, true, fun _ => True⟩ R1) (ur : Upd R1 r r' R2) (ms : s.mu = true) (m : r.mu = true) (m' : r'.mu = true) (k : KB U h h') (hU : ∀ b, U b → r.S b ∨ h.length ≤ b) (hA : r'.A h') (ok : r'.Ok) (hS : ∀ b, r'.S b → r.S b ∨ s.S b ∨ (h.length ≤ b ∧ b < h'.length)) : Hs base W h0 h' D R2 := by
 have dE : Hs base W h0 h D R1 := d.re us ms rfl trivial (fun _ _ _ _ _ h => h) (fun _ h => h.elim)
 obtain ⟨r1, r2, r3, r4, r5⟩ := dE.res r ur.mem
 obtain ⟨s1, s2, s3, s4, s5⟩ := d.res s us.mem
 have dj1 := us.off (fun _ h => h) ms d.dj
 obtain ⟨R3, u1, u2⟩ := ur.two ⟨fun b => r.S b ∨ s.S b, true, r.A⟩
 have dF : Hs base W h0 h D R3 := by
  refine ⟨dE.ge, dE.kb, dE.own, dE.nd, fun z hz => ?_, ?_⟩
  ·rcases u1.of z hz with rfl | hz
   ·refine ⟨r1, fun U h h' k hk => r2 U h h' k fun b hb => hk b (.inl hb), fun b hb => hb.elim (r3 b) (s3 b), fun _ b hb => hb.elim (r4 m b) (s4 ms b), fun x hx hb => hb.elim (r5 x hx) (s5 x hx)⟩
   ·exact dE.res z hz
  ·refine u1.pair dE.dj fun z hz hd e b h1 h2 => ?_
   rcases h2 with h2 | h2
   ·exact hd (by rw [m]; simp) b h1 h2
   ·exact dj1 z hz b h1 h2
 exact dF.upd u2 rfl m' k (fun b hb => (hU b hb).imp .inl id) hA ok fun b hb => by
  rcases hS b hb with h | h | h
  ·exact .inl (.inl h)
  ·exact .inl (.inr h)
  ·exact .inr h
theorem unbox (d : Hs base W h0 h D R) {b t : Nat} {cs : List Value} {D' : Ds} (u : Del D (b, t, cs) D') : Hs base W h0 h D' (R ++ [⟨(· = b), true, fun y => Own base t y (at0 b) cs⟩]) := by
 obtain ⟨n1, n2⟩ := u.others d.nd
 refine ⟨d.ge, d.kb, fun x hx => d.own x (u.of x hx), n1, fun r hr => ?_, ?_⟩
 ·rcases List.mem_append.1 hr with hr | hr
  ·obtain ⟨r1, r2, r3, r4, r5⟩ := d.res r hr
   exact ⟨r1, r2, r3, r4, fun x hx => r5 x (u.of x hx)⟩
  ·rw [List.mem_singleton] at hr
   subst hr
   refine ⟨(d.own _ u.mem).1, fun U y y' k hk x => x.keep k fun i hi hu => hk i (blk_at0.1 hi) hu, fun i hi => ?_, fun _ i hi => ?_, fun x hx hi => n2 x hx hi⟩
   ·simp only at hi; subst hi; exact d.lt u.mem
   ·simp only at hi; subst hi; exact (d.own _ u.mem).2
 ·rw [List.pairwise_append]
  refine ⟨d.dj, by simp, fun r hr s hs e i h1 h2 => ?_⟩
  rw [List.mem_singleton] at hs
  subst hs
  simp only at h2
  subst h2
  exact (d.res r hr).2.2.2.2 _ u.mem h1
theorem joinP {U : Fp} {h' : AH} {r s : Rs} {R1 R2 : List Rs} {α : Type} {P : Fp → AH → α → List Value → Prop} {x : α} {cs : List Value} {S' : Fp} (d : Hs base W h0 h D R) (kp : Kp P) (us : Upd R s ⟨fun _ => False, true, fun _ => True⟩ R1) (ur : Upd R1 r ⟨S', true, fun y => P S' y x cs⟩ R2) (ms : s.mu = true) (m : r.mu = true) (k : KB U h h') (hA : P S' h' x cs) (hU : ∀ b, U b → r.S b ∨ h.length ≤ b) (hS : ∀ b, S' b → r.S b ∨ s.S b ∨ (h.length ≤ b ∧ b < h'.length)) : Hs base W h0 h' D R2 :=
 d.join us ur ms m rfl k hU hA (fun U y y' ky hs z => kp _ U y y' x cs ky hs z) hS
theorem out {α : Type} {P : Fp → AH → α → List Value → Prop} (d : Hs base NoB h0 h D R) (mo : Mo P) {i : Nat} {S : Fp} {x : α} {cs : List Value} (e : R[i]? = some ⟨S, true, fun y => P S y x cs⟩) : P (iS h0.length h.length) h x cs :=
 mo S _ h x cs (fun b hb => ⟨(d.rfr e rfl b hb).resolve_left (fun h => h), d.rlt e b hb⟩) (d.rs e)
end Hs
theorem TmR.opn {h : AH} {p : Nat → Prop} {f : Nat} {t : Tm} {k n : Int} {s : ByteArray} {a : Option Addr} {m : Nat} (x : TmR h p (f + 1) t (termV k n s a m)) : ∃ l, t = .mk k n s l ∧ m = l.length ∧ TsR h p f l a ∧ s.size ≤ maxLen ∧ l.length ≤ maxLen := by
 obtain ⟨k', n', s', l⟩ := t
 obtain ⟨a', e, h1, h2, h3⟩ := x.parts
 injection e with q0 e
 injection e with q1 e
 injection e with q2 e
 injection e with q3 _
 injection q0 with _ q0; injection q1 with _ q1; injection q2 with q2; injection q3 with q3 q4 _
 subst q0; subst q1; subst q2; subst q3
 exact ⟨l, rfl, q4, h1, h2, h3⟩
theorem n1 {α : Type} {l : List α} : [] ++ l = l := rfl
theorem n2 {α : Type} {x : α} {l m : List α} : x :: l ++ m = x :: (l ++ m) := rfl
theorem n3 {α : Type} {x y : α} {l : List α} : (x :: l).set 0 y = y :: l := rfl
theorem n4 {α : Type} {x y : α} {l : List α} {n : Nat} : (x :: l).set (n + 1) y = x :: l.set n y := rfl
theorem n5 {α : Type} {x : α} {l : List α} : (x :: l).eraseIdx 0 = l := rfl
theorem n6 {α : Type} {x : α} {l : List α} {n : Nat} : (x :: l).eraseIdx (n + 1) = x :: l.eraseIdx n := rfl
namespace W
variable {β γ : Type} {Q : β → Prop} {base : Nat} {Wr : Fp} {h0 h : AH} {D : Ds} {R : List Rs}
theorem nD (d : Hs base Wr h0 h D R) {t : Nat} {cs : List Value} {f : AH → Option β} (w : ∀ h1, Hs base Wr h0 h1 ((h.length, t, cs) :: D) R → h1.length = h.length + 1 → KB NoB h h1 → Wp (f h1) Q) : Wp ((some (h ++ [some ⟨cs, t⟩])).bind f) Q := w _ (d.new t cs) (by simp) (KB.push _ _ _)
theorem wD (d : Hs base Wr h0 h D R) {b t o : Nat} {cs new : List Value} {D' : Ds} {f : AH → Option β} (u : Upd D (b, t, cs) (b, t, setAt cs o new) D') (hi : Nat.ble (o + new.length) cs.length = true) (hz : Nat.blt 0 new.length = true) (w : ∀ h1, Hs base Wr h0 h1 D' R → h1.length = h.length → KB (· = b) h h1 → Wp (f h1) Q) : Wp ((Am.wr base h b o new).bind f) Q := by
 obtain ⟨h1, e, d1, l1, k1⟩ := d.wr u (Nat.le_of_ble_eq_true hi) (by rw [Nat.blt_eq] at hz; exact hz)
 rw [e]
 exact w h1 d1 l1 k1
theorem gS (d : Hs base Wr h0 h D R) {b t o n : Nat} {cs cs1 : List Value} {Wr1 : Fp} {h01 h1 : AH} {D1 : Ds} {R1 : List Rs} {x : Option β} (m : (b, t, cs) ∈ D) (d1 : Hs base Wr1 h01 h1 D1 R1) (m1 : (b, t, cs1) ∈ D1) (e : (cs1.drop o).take n = (cs.drop o).take n) (hl : Nat.ble (o + n) cs.length = true) (hl1 : Nat.ble (o + n) cs1.length = true) (w : Wp x Q) : Wp (gate (sameA h1 h (some ⟨b, o, none⟩) n) x) Q := by
 refine W.gt (fun ad ea => ?_) w
 injection ea with ea
 subst ea
 have hl := Nat.le_of_ble_eq_true hl
 have hl1 := Nat.le_of_ble_eq_true hl1
 refine ⟨fun j hj => ?_, ?_⟩
 ·have e2 : (cs1.drop o)[j]? = (cs.drop o)[j]? := by
   have := congrArg (·[j]?) e
   simp only [List.getElem?_take_of_lt hj] at this
   exact this
  rw [List.getElem?_drop, List.getElem?_drop] at e2
  have g1 := d1.getI m1 (o := o + j) (List.getElem?_eq_getElem (by omega))
  have g2 := d.getI m (o := o + j) (List.getElem?_eq_getElem (by omega))
  rw [List.getElem?_eq_getElem (by omega), List.getElem?_eq_getElem (by omega)] at e2
  injection e2 with e2
  show Am.cell h1 b (o + j) = Am.cell h b (o + j)
  rw [g1, g2, e2]
 ·have ty : ∀ {h : AH} {cs : List Value}, Own base t h (at0 b) cs → (hget h b).map (·.ty) = some t := fun o => by
   rcases o with ⟨e, _⟩ | ⟨ad, k, e1, _, e2, e3, _⟩
   ·cases e
   ·injection e1 with e1
    subst e1
    rw [e2]
    simp [e3]
  show (hget h1 b).map (·.ty) = (hget h b).map (·.ty)
  rw [ty (d1.ol m1), ty (d.ol m)]
theorem gN (d : Hs base Wr h0 h D R) {b t o : Nat} {cs : List Value} {x : Option β} (m : (b, t, cs) ∈ D) (w : Wp x Q) : Wp (gate (neA (some ⟨b, o, none⟩) h.length) x) Q := W.gt (ne_A (Nat.ne_of_lt (d.lt m))) w
theorem iB {i n : Int} {a b : Option β} (h1 : 0 ≤ i) (h2 : i < n) (w : Wp a Q) : Wp (if 0 ≤ i ∧ i < n then a else b) Q := W.ifT ⟨h1, h2⟩ w
theorem rG (d : Hs base Wr h0 h D R) {α : Type} {b t o : Nat} {cs : List Value} {v : Value} {g : Value → Option α} {y : α} {f : α → Option β} (m : (b, t, cs) ∈ D) (e : cs[o]? = some v) (eg : g v = some y) (w : Wp (f y) Q) : Wp (((Am.cell h b o).bind g).bind f) Q := by
 rw [d.getI m e, Option.bind_some, eg]
 exact w
theorem bE {α δ : Type} {x : Option δ} {g : δ → Option α} {y : α} {f : α → Option β} (e : x.bind g = some y) (w : Wp (f y) Q) : Wp ((x.bind g).bind f) Q := by rw [e]; exact w
theorem bU {n : Nat} {v : Value} {l : List Value} {f : List Value → Option β} (e : getTup n v = some l) (w : Wp (f l) Q) : Wp ((getTup n v).bind f) Q := by rw [e]; exact w
theorem bo {a : Addr} {f : Addr → Option β} (w : Wp (f a) Q) : Wp ((some a).bind f) Q := w
theorem t4 {p : Nat → Prop} {g : Nat} {l : List Tm} {a : Option Addr} (hs : TsR h p (g + 1) l a) {i : Nat} (hi : i < l.length) {f : Int → Int → ByteArray → Option Addr × Nat → Option β} (w : ∀ k n s a2 l2, l[i] = .mk k n s l2 → TmR h p (g + 1) (.mk k n s l2) (termV k n s a2 l2.length) → TsR h p g l2 a2 → s.size ≤ maxLen → l2.length ≤ maxLen → Wp (f k n s (a2, l2.length)) Q) :
  Wp (a.bind fun ad => ((Am.cell h ad.block (ad.off + i * 4)).bind (getI .i64)).bind fun n1 => ((Am.cell h ad.block (ad.off + i * 4 + 1)).bind (getI .i64)).bind fun n2 => ((Am.cell h ad.block (ad.off + i * 4 + 1 + 1)).bind getStr).bind fun s3 => ((Am.cell h ad.block (ad.off + i * 4 + 1 + 1 + 1)).bind getS).bind fun l4 => f n1 n2 s3 l4) Q := by
 obtain ⟨ad, k, n, s, a2, m, rfl, g0, g1, g2, g3, hm⟩ := hs.getT hi
 obtain ⟨l2, e, rfl, h1, h2, h3⟩ := hm.opn
 refine W.bs rfl (W.bI g0 (W.bI g1 (W.bT g2 (W.bS g3 (w k n s a2 l2 e ?_ h1 h2 h3)))))
 rw [← e]
 exact hm
theorem a1 (d : Hs base Wr h0 h D R) {α : Type} {b t o : Nat} {cs : List Value} {v : Value} {g : Value → Option α} {y : α} {f : α → Option β} (w : Wp (f y) Q) (m : (b, t, cs) ∈ D := by with_unfolding_all (repeat first | exact List.Mem.head _ | apply List.Mem.tail)) (e : cs[o]? = some v := by with_unfolding_all exact rfl) (eg : g v = some y := by with_unfolding_all exact rfl) : Wp (((Am.cell h b o).bind g).bind f) Q := rG d m e eg w
theorem a2 {α δ : Type} {x : Option δ} {g : δ → Option α} {y : α} {f : α → Option β} (w : Wp (f y) Q) (e : x.bind g = some y := by with_unfolding_all exact rfl) : Wp ((x.bind g).bind f) Q := bE e w
theorem a3 {n : Nat} {v : Value} {l : List Value} {f : List Value → Option β} (w : Wp (f l) Q) (e : getTup n v = some l := by with_unfolding_all exact rfl) : Wp ((getTup n v).bind f) Q := bU e w
theorem a5 (d : Hs base Wr h0 h D R) {b t o : Nat} {cs new : List Value} {D' : Ds} {f : AH → Option β} (w : ∀ h1, Hs base Wr h0 h1 D' R → h1.length = h.length → KB (· = b) h h1 → Wp (f h1) Q) (u : Upd D (b, t, cs) (b, t, setAt cs o new) D' := by with_unfolding_all (repeat first | exact Upd.here | apply Upd.there)) (hi : Nat.ble (o + new.length) cs.length = true := by with_unfolding_all exact rfl) (hz : Nat.blt 0 new.length = true := by with_unfolding_all exact rfl) : Wp ((Am.wr base h b o new).bind f) Q := wD d u hi hz w
theorem a6 (d : Hs base Wr h0 h D R) {b t o n : Nat} {cs cs1 : List Value} {Wr1 : Fp} {h01 h1 : AH} {D1 : Ds} {R1 : List Rs} {x : Option β} (w : Wp x Q) (d1 : Hs base Wr1 h01 h1 D1 R1 := by assumption) (m : (b, t, cs) ∈ D := by with_unfolding_all (repeat first | exact List.Mem.head _ | apply List.Mem.tail)) (m1 : (b, t, cs1) ∈ D1 := by with_unfolding_all (repeat first | exact List.Mem.head _ | apply List.Mem.tail)) (e : (cs1.drop o).take n = (cs.drop o).take n := by with_unfolding_all exact rfl) (hl : Nat.ble (o + n) cs.length = true := by with_unfolding_all exact rfl) (hl1 : Nat.ble (o + n) cs1.length = true := by with_unfolding_all exact rfl) : Wp (gate (sameA h1 h (some ⟨b, o, none⟩) n) x) Q := gS d m d1 m1 e hl hl1 w
theorem a7 {b t o : Nat} {cs : List Value} {x : Option β} (w : Wp x Q) (d : Hs base Wr h0 h D R := by assumption) (m : (b, t, cs) ∈ D := by with_unfolding_all (repeat first | exact List.Mem.head _ | apply List.Mem.tail)) : Wp (gate (neA (some ⟨b, o, none⟩) h.length) x) Q := gN d m w
theorem a8 {i n : Int} {a b : Option β} (w : Wp a Q) (h1 : 0 ≤ i := by first | omega | (dsimp only; omega)) (h2 : i < n := by first | omega | (dsimp only; omega)) : Wp (if 0 ≤ i ∧ i < n then a else b) Q := iB h1 h2 w
end W
end Go.Proofs.Ytjmkbglnjklbcaa.Am
set_option linter.unusedSimpArgs false
set_option linter.unusedVariables false
namespace Go.Proofs.Ytjmkbglnjklbcaa.Am
open Go Go.RowKit
def tagW (w : Int) : Int := if w < 0 then 0 else w % 8
def valW (w : Int) : Int := if w < 0 then 0 else w / 8
end Go.Proofs.Ytjmkbglnjklbcaa.Am
set_option linter.unusedSimpArgs false
set_option linter.unusedVariables false
namespace Go.Proofs.Ytjmkbglnjklbcaa.Am
open Go Go.RowKit
end Go.Proofs.Ytjmkbglnjklbcaa.Am
set_option linter.unusedSimpArgs false
set_option linter.unusedVariables false
namespace Go.Proofs.Ytjmkbglnjklbcaa.Am
open Go Go.RowKit
def AsR (h : AH) (p : Nat → Prop) (f : Nat) (l : List Ac) (a : Option Addr) : Prop :=
 ∃ vs, Sl h a vs ∧ (vs = [] ∨ ∀ b, blk a b → p b) ∧ vs.length = l.length * 5 ∧ ∀ i x, l[i]? = some x → AcR h p f x (chunk 5 i vs)
theorem AsR.keep {h h' : AH} {p S : Nat → Prop} (k : KB S h h') (hp : ∀ b, p b → ¬ S b) {f : Nat} {l : List Ac} {a : Option Addr} (x : AsR h p f l a) : AsR h' p f l a := by
 obtain ⟨vs, h4, h5, h6, h7⟩ := x
 refine ⟨vs, ?_, h5, h6, fun i t hi => (h7 i t hi).keep k hp⟩
 rcases h5 with e | h5
 ·exact .inl e
 ·exact h4.keep k fun b hb hs => hp b (h5 b hb) hs
theorem AsR.keepN {h h' : AH} {p : Nat → Prop} (k : KB NoB h h') {f : Nat} {l : List Ac} {a : Option Addr} (x : AsR h p f l a) : AsR h' p f l a := x.keep k fun _ _ h => h
theorem AcR.mono {h : AH} {p q : Nat → Prop} (hpq : ∀ b, p b → q b) {f : Nat} {A : Ac} {cs : List Value} (x : AcR h p f A cs) : AcR h q f A cs := by
 obtain ⟨a, b, g, e, h1, h2, h3, h4⟩ := x
 exact ⟨a, b, g, e, h1.mono hpq, h2.mono hpq, h3, h4.imp id fun k y hy => hpq y (k y hy)⟩
theorem AsR.get {h : AH} {p : Nat → Prop} {f : Nat} {l : List Ac} {al : Option Addr} (x : AsR h p f l al) {i : Nat} (hi : i < l.length) :
  ∃ ad a b g, al = some ad ∧ ad.block < h.length ∧ Am.cell h ad.block (ad.off + i * 5) = some (.int .i64 l[i].pid) ∧ Am.cell h ad.block (ad.off + i * 5 + 1) = some (.int .i64 l[i].pc) ∧ Am.cell h ad.block (ad.off + i * 5 + 1 + 1) = some (.slice a l[i].regs.length l[i].regs.length) ∧
   Am.cell h ad.block (ad.off + i * 5 + 1 + 1 + 1) = some (.slice b l[i].box.length l[i].box.length) ∧ Am.cell h ad.block (ad.off + i * 5 + 1 + 1 + 1 + 1) = some (.slice g l[i].links.length l[i].links.length) ∧
   AcR h p f l[i] (acV l[i].pid l[i].pc a l[i].regs.length b l[i].box.length g l[i].links.length) ∧ Sl h g (iv .i64 l[i].links) := by
 obtain ⟨vs, h4, h5, h6, h7⟩ := x
 have hlt : i * 5 + 4 < vs.length := by omega
 have hm := h7 i l[i] (List.getElem?_eq_getElem hi)
 obtain ⟨a, b, g, ecs, q1, q2, q3, q4⟩ := hm
 have each : ∀ (j : Nat) (v : Value), (acV l[i].pid l[i].pc a l[i].regs.length b l[i].box.length g l[i].links.length)[j]? = some v → vs[i * 5 + j]? = some v := by
  intro j v hv
  have hj : j < 5 := by have := (List.getElem?_eq_some_iff.1 hv).1; simpa using this
  rw [← ecs] at hv
  unfold chunk at hv
  rw [List.getElem?_take_of_lt hj, List.getElem?_drop] at hv
  exact hv
 rcases h4 with e | ⟨ad, kk, e1, e2, e3, e4⟩
 ·subst e; simp at hlt
 ·have c : ∀ (j : Nat) (v : Value), (acV l[i].pid l[i].pc a l[i].regs.length b l[i].box.length g l[i].links.length)[j]? = some v → Am.cell h ad.block (ad.off + i * 5 + j) = some v := by
   intro j v hv
   have := e4 _ _ (each j v hv)
   rw [Nat.add_assoc]
   simp [Am.cell, e2, this]
  exact ⟨ad, a, b, g, e1, hget_lt e2, c 0 _ rfl, c 1 _ rfl, c 2 _ rfl, c 3 _ rfl, c 4 _ rfl, ⟨a, b, g, rfl, q1, q2, q3, q4⟩, q3⟩
end Go.Proofs.Ytjmkbglnjklbcaa.Am
set_option linter.unusedSimpArgs false
set_option linter.unusedVariables false
namespace Go.Proofs.Ytjmkbglnjklbcaa.Am
open Go Go.RowKit
def CopD (base f F : Nat) : Prop := ∀ (h : AH) (p : Nat → Prop) (t : Tm) (cs : List Value), TmR h p f t cs → TmB f t → base ≤ h.length → (∀ b, p b → b < h.length) →
 ∃ cs' h', run (Et base) F [.agg cs.toArray] h = some (.agg cs'.toArray, h') ∧ TmD f (iS h.length h'.length) h' t cs' ∧ KB NoB h h'
def CopG (base f F : Nat) : Prop := ∀ (h : AH) (p : Nat → Prop) (t : Tm) (cs : List Value), TmR h p f t cs → TmB f t → base ≤ h.length → (∀ b, p b → b < h.length) →
 ∃ cs' h', run (Et base) F [.agg cs.toArray] h = some (.agg cs'.toArray, h') ∧ TmG base f (iS h.length h'.length) h' t cs' ∧ KB NoB h h'
theorem TmD.form {f : Nat} {S : Fp} {h : AH} {t : Tm} {cs : List Value} (x : TmD f S h t cs) : ∃ k n s a m, cs = termV k n s a m := by
 cases f with
 | zero => exact x.elim
 | succ f => obtain ⟨k, n, s, l⟩ := t; obtain ⟨_, _, a, e, _⟩ := x; exact ⟨k, n, s, a, _, e⟩
theorem CopG.d {base f F : Nat} (x : CopG base f F) : CopD base f F := fun h p t cs y hB hb hp => by
 obtain ⟨cs', h', e, m, k⟩ := x h p t cs y hB hb hp
 exact ⟨cs', h', e, m.d, k⟩
end Go.Proofs.Ytjmkbglnjklbcaa.Am
set_option linter.unusedSimpArgs false
set_option linter.unusedVariables false
namespace Go.Proofs.Ytjmkbglnjklbcaa.Am
open Go Go.RowKit
end Go.Proofs.Ytjmkbglnjklbcaa.Am
set_option linter.unusedSimpArgs false
set_option linter.unusedVariables false
namespace Go.Proofs.Ytjmkbglnjklbcaa.Am
open Go Go.RowKit
structure Sd where
 kind : Int
 pid : Int
 t : Tm
def SsR (h : AH) (p : Nat → Prop) (f : Nat) (l : List Sd) (a : Option Addr) : Prop :=
 ∃ vs, Sl h a vs ∧ (vs = [] ∨ ∀ b, blk a b → p b) ∧ vs.length = l.length * 6 ∧ ∀ i x, l[i]? = some x → ∃ cs, (vs.drop (i * 6)).take 6 = .int .i64 x.kind :: .int .i64 x.pid :: cs ∧ TmR h p f x.t cs
theorem SsR.keep {h h' : AH} {p S : Nat → Prop} (k : KB S h h') (hp : ∀ b, p b → ¬ S b) {f : Nat} {l : List Sd} {a : Option Addr} (x : SsR h p f l a) : SsR h' p f l a := by
 obtain ⟨vs, h4, h5, h6, h7⟩ := x
 refine ⟨vs, ?_, h5, h6, fun i t hi => ?_⟩
 ·rcases h5 with e | h5
  ·exact .inl e
  ·exact h4.keep k fun b hb hs => hp b (h5 b hb) hs
 ·obtain ⟨cs, e, hm⟩ := h7 i t hi
  exact ⟨cs, e, TmR.keep k hp f _ _ hm⟩
theorem SsR.get {h : AH} {p : Nat → Prop} {f : Nat} {l : List Sd} {a : Option Addr} (x : SsR h p f l a) {i : Nat} (hi : i < l.length) :
  ∃ ad k n s a2 m, a = some ad ∧ ad.block < h.length ∧ Am.cell h ad.block (ad.off + i * 6) = some (.int .i64 l[i].kind) ∧ Am.cell h ad.block (ad.off + i * 6 + 1) = some (.int .i64 l[i].pid) ∧ Am.cell h ad.block (ad.off + i * 6 + 1 + 1) = some (.int .i64 k) ∧
   Am.cell h ad.block (ad.off + i * 6 + 1 + 1 + 1) = some (.int .i64 n) ∧ Am.cell h ad.block (ad.off + i * 6 + 1 + 1 + 1 + 1) = some (.string s) ∧ Am.cell h ad.block (ad.off + i * 6 + 1 + 1 + 1 + 1 + 1) = some (.slice a2 m m) ∧ TmR h p f l[i].t (termV k n s a2 m) := by
 obtain ⟨vs, h4, h5, h6, h7⟩ := x
 have hlt : i * 6 + 5 < vs.length := by omega
 obtain ⟨cs, ecs, hm⟩ := h7 i l[i] (List.getElem?_eq_getElem hi)
 cases f with
 | zero => exact hm.elim
 | succ f =>
  generalize ht : l[i].t = tt at hm
  obtain ⟨k, n, s, ll⟩ := tt
  obtain ⟨a2, rfl, _, _, _⟩ := hm.parts
  have each : ∀ (j : Nat) (v : Value), (Value.int .i64 l[i].kind :: .int .i64 l[i].pid :: termV k n s a2 ll.length)[j]? = some v → vs[i * 6 + j]? = some v := by
   intro j v hv
   have hj : j < 6 := by have := (List.getElem?_eq_some_iff.1 hv).1; simpa using this
   rw [← ecs, List.getElem?_take_of_lt hj, List.getElem?_drop] at hv
   exact hv
  rcases h4 with e | ⟨ad, kk, e1, e2, e3, e4⟩
  ·subst e; simp at hlt
  ·have c : ∀ (j : Nat) (v : Value), (Value.int .i64 l[i].kind :: .int .i64 l[i].pid :: termV k n s a2 ll.length)[j]? = some v → Am.cell h ad.block (ad.off + i * 6 + j) = some v := by
    intro j v hv
    have := e4 _ _ (each j v hv)
    rw [Nat.add_assoc]
    simp [Am.cell, e2, this]
   exact ⟨ad, k, n, s, a2, ll.length, e1, hget_lt e2, c 0 _ rfl, c 1 _ rfl, c 2 _ rfl, c 3 _ rfl, c 4 _ rfl, c 5 _ rfl, hm⟩
abbrev saidV (kind pid k n : Int) (s : ByteArray) (a : Option Addr) (m : Nat) : List Value := [.int .i64 kind, .int .i64 pid, .int .i64 k, .int .i64 n, .string s, .slice a m m]
end Go.Proofs.Ytjmkbglnjklbcaa.Am
set_option linter.unusedSimpArgs false
set_option linter.unusedVariables false
namespace Go.Proofs.Ytjmkbglnjklbcaa.Am
open Go Go.RowKit
end Go.Proofs.Ytjmkbglnjklbcaa.Am
set_option linter.unusedSimpArgs false
set_option linter.unusedVariables false
namespace Go.Proofs.Ytjmkbglnjklbcaa.Am
open Go Go.RowKit
def d0 : Sd := ⟨0, 0, .mk 0 0 ⟨#[]⟩ []⟩
end Go.Proofs.Ytjmkbglnjklbcaa.Am
set_option linter.unusedSimpArgs false
set_option linter.unusedVariables false
namespace Go.Proofs.Ytjmkbglnjklbcaa.Am
open Go Go.RowKit
def SdD (f : Nat) (S : Fp) (h : AH) (x : Sd) (cs : List Value) : Prop := ∃ k n s a m, cs = saidV x.kind x.pid k n s a m ∧ TmD f S h x.t (termV k n s a m)
theorem SdD.kp (f : Nat) : Kp (SdD f) := fun S U h h' x cs k hs y => by
 obtain ⟨k1, n, s, a, m, e, r⟩ := y
 exact ⟨k1, n, s, a, m, e, TmD.kp f _ _ _ _ _ _ k hs r⟩
theorem SdD.mo (f : Nat) : Mo (SdD f) := fun S S' h x cs hs y => by
 obtain ⟨k1, n, s, a, m, e, r⟩ := y
 exact ⟨k1, n, s, a, m, e, TmD.mo f _ _ _ _ _ hs r⟩
end Go.Proofs.Ytjmkbglnjklbcaa.Am
set_option linter.unusedSimpArgs false
set_option linter.unusedVariables false
namespace Go.Proofs.Ytjmkbglnjklbcaa.Am
open Go Go.RowKit
def isA (k n : Int) (s : ByteArray) (m : Nat) (w : ByteArray) : Bool := !(k != 2) && !(n != 0) && (s.toList == w.toList) && !(((m : Nat) : Int) != ((0 : Nat) : Int))
end Go.Proofs.Ytjmkbglnjklbcaa.Am
set_option linter.unusedSimpArgs false
set_option linter.unusedVariables false
namespace Go.Proofs.Ytjmkbglnjklbcaa.Am
open Go Go.RowKit
def nr : ByteArray := ⟨#[110, 111, 114, 111, 111, 109]⟩
def isNr (x : Sd) : Bool := match x.t with
 | .mk k n s l => (x.kind == 3) && isA k n s l.length nr
def cnt : List Sd → Nat
 | [] => 0
 | x :: r => (if isNr x then 1 else 0) + cnt r
end Go.Proofs.Ytjmkbglnjklbcaa.Am
set_option linter.unusedSimpArgs false
set_option linter.unusedVariables false
namespace Go.Proofs.Ytjmkbglnjklbcaa.Am
open Go Go.RowKit
end Go.Proofs.Ytjmkbglnjklbcaa.Am
set_option linter.unusedSimpArgs false
set_option linter.unusedVariables false
namespace Go.Proofs.Ytjmkbglnjklbcaa.Am
open Go Go.RowKit
end Go.Proofs.Ytjmkbglnjklbcaa.Am
set_option linter.unusedSimpArgs false
set_option linter.unusedVariables false
namespace Go.Proofs.Ytjmkbglnjklbcaa.Am
open Go Go.RowKit
end Go.Proofs.Ytjmkbglnjklbcaa.Am
set_option linter.unusedSimpArgs false
set_option linter.unusedVariables false
namespace Go.Proofs.Ytjmkbglnjklbcaa.Am
open Go Go.RowKit
end Go.Proofs.Ytjmkbglnjklbcaa.Am
set_option linter.unusedSimpArgs false
set_option linter.unusedVariables false
namespace Go.Proofs.Ytjmkbglnjklbcaa.Am
open Go Go.RowKit
structure Pl where
 code : List In
 acs : List Ac
 next : Int
 out : List Sd
abbrev plV (a : Option Addr) (n : Nat) (b : Option Addr) (m : Nat) (v : Int) (g : Option Addr) (q : Nat) : List Value := [.slice a n n, .slice b m m, .int .i64 v, .slice g q q]
def PlR (h : AH) (p : Nat → Prop) (f : Nat) (P : Pl) (cs : List Value) : Prop :=
 ∃ a b g, cs = plV a P.code.length b P.acs.length P.next g P.out.length ∧ Sl h a (insR P.code) ∧ (insR P.code = [] ∨ ∀ x, blk a x → p x) ∧ AsR h p f P.acs b ∧ SsR h p f P.out g
def PlD (base f : Nat) (S : Fp) (h : AH) (P : Pl) (cs : List Value) : Prop :=
 ∃ (a b g : Option Addr) (S1 S2 S3 : Fp), cs = plV a P.code.length b P.acs.length P.next g P.out.length ∧ Own base 139 h a (insR P.code) ∧ (∀ x, blk a x → S1 x) ∧ RowD 5 (AcD base f) S2 h P.acs b ∧ RowD 6 (SdD f) S3 h P.out g ∧
  (∀ x, S1 x → S x) ∧ (∀ x, S2 x → S x) ∧ (∀ x, S3 x → S x) ∧ (∀ x, S1 x → ¬ S2 x) ∧ (∀ x, S1 x → ¬ S3 x) ∧ (∀ x, S2 x → ¬ S3 x)
theorem PlR.keep {h h' : AH} {p S : Nat → Prop} (k : KB S h h') (hp : ∀ b, p b → ¬ S b) {f : Nat} {P : Pl} {cs : List Value} (x : PlR h p f P cs) : PlR h' p f P cs := by
 obtain ⟨a, b, g, e, h1, h2, h3, h4⟩ := x
 refine ⟨a, b, g, e, ?_, h2, h3.keep k hp, h4.keep k hp⟩
 rcases h2 with e | h2
 ·exact .inl e
 ·exact h1.keep k fun b hb hs => hp b (h2 b hb) hs
theorem PlR.keepN {h h' : AH} {p : Nat → Prop} (k : KB NoB h h') {f : Nat} {P : Pl} {cs : List Value} (x : PlR h p f P cs) : PlR h' p f P cs := x.keep k fun _ _ h => h
theorem PlD.kp (base f : Nat) : Kp (PlD base f) := fun S U h h' P cs k hs x => by
 obtain ⟨a, b, g, S1, S2, S3, e, h1, h2, h3, h4, s1, s2, s3, d1, d2, d3⟩ := x
 exact ⟨a, b, g, S1, S2, S3, e, h1.keep k fun b hb => hs b (s1 b (h2 b hb)), h2, h3.keep (AcD.kp _ _) k fun b hb => hs b (s2 b hb), h4.keep (SdD.kp _) k fun b hb => hs b (s3 b hb), s1, s2, s3, d1, d2, d3⟩
theorem PlD.mo (base f : Nat) : Mo (PlD base f) := fun S S' h P cs hs x => by
 obtain ⟨a, b, g, S1, S2, S3, e, h1, h2, h3, h4, s1, s2, s3, d1, d2, d3⟩ := x
 exact ⟨a, b, g, S1, S2, S3, e, h1, h2, h3, h4, fun x hx => hs x (s1 x hx), fun x hx => hs x (s2 x hx), fun x hx => hs x (s3 x hx), d1, d2, d3⟩
theorem PlD.form {base f : Nat} {S : Fp} {h : AH} {P : Pl} {cs : List Value} (x : PlD base f S h P cs) : ∃ a n b m v g q, cs = plV a n b m v g q := by
 obtain ⟨a, b, g, S1, S2, S3, e, _⟩ := x
 exact ⟨_, _, _, _, _, _, _, e⟩
end Go.Proofs.Ytjmkbglnjklbcaa.Am
set_option linter.unusedSimpArgs false
set_option linter.unusedVariables false
namespace Go.Proofs.Ytjmkbglnjklbcaa.Am
open Go Go.RowKit
end Go.Proofs.Ytjmkbglnjklbcaa.Am
set_option linter.unusedSimpArgs false
set_option linter.unusedVariables false
namespace Go.Proofs.Ytjmkbglnjklbcaa.Am
open Go Go.RowKit
end Go.Proofs.Ytjmkbglnjklbcaa.Am
set_option linter.unusedSimpArgs false
set_option linter.unusedVariables false
namespace Go.Proofs.Ytjmkbglnjklbcaa.Am
open Go Go.RowKit
def TyOk (base : Nat) (h : AH) (a : Option Addr) (t : Nat) : Prop := ∀ ad, a = some ad → ad.block < h.length ∧ (ad.block < base ∨ ∃ k, hget h ad.block = some k ∧ k.ty = t)
theorem TyOk.keep {base t : Nat} {S : Nat → Prop} {h h' : AH} {a : Option Addr} (x : TyOk base h a t) (k : KB S h h') (hS : ∀ b, blk a b → ¬ S b) : TyOk base h' a t := fun ad e => by
 obtain ⟨h1, h2⟩ := x ad e
 refine ⟨Nat.lt_of_lt_of_le h1 k.1, h2.imp id fun ⟨kk, e1, e2⟩ => ⟨kk, ?_, e2⟩⟩
 rw [k.2 _ h1 (hS _ ⟨ad, e, rfl⟩)]
 exact e1
theorem TyOk.keepN {base t : Nat} {h h' : AH} {a : Option Addr} (x : TyOk base h a t) (k : KB NoB h h') : TyOk base h' a t := x.keep k fun _ _ h => h
theorem TyOk.own {base t : Nat} {h : AH} {a : Option Addr} {vs : List Value} (o : Own base t h a vs) : TyOk base h a t := fun ad e => by
 rcases o with ⟨e2, _⟩ | ⟨ad2, k, e1, e2, e3, e4, _⟩
 ·rw [e2] at e; cases e
 ·rw [e1] at e; injection e with e; subst e
  exact ⟨hget_lt e3, .inr ⟨k, e3, e4⟩⟩
theorem TyOk.ok {base t : Nat} {h : AH} {a : Option Addr} (x : TyOk base h a t) (n : Nat) : okTy base h a t n = true := by
 unfold okTy
 cases a with
 | none => simp
 | some ad =>
  obtain ⟨_, h2⟩ := x ad rfl
  simp only
  rcases h2 with h2 | ⟨k, e1, e2⟩
  ·have : Nat.blt ad.block base = true := by rw [Nat.blt_eq]; exact h2
   rw [this]; simp
  ·rw [e1]
   subst e2
   simp
theorem Sl.part {h : AH} {a : Option Addr} {vs : List Value} (x : Sl h a vs) {n m : Nat} (hnm : n + m ≤ vs.length) : Sl h (shiftA a n) ((vs.drop n).take m) := by
 rcases x with e | ⟨ad, k, e1, e2, e3, e4⟩
 ·subst e; exact .inl (by simp)
 ·subst e1
  refine .inr ⟨_, k, rfl, e2, by simp; omega, fun i v hi => ?_⟩
  have hlt : i < m := by have := (List.getElem?_eq_some_iff.1 hi).1; simp at this; omega
  rw [List.getElem?_take_of_lt hlt, List.getElem?_drop] at hi
  simp only [Nat.add_assoc]
  exact e4 _ _ hi
end Go.Proofs.Ytjmkbglnjklbcaa.Am
set_option linter.unusedSimpArgs false
set_option linter.unusedVariables false
namespace Go.Proofs.Ytjmkbglnjklbcaa.Am
open Go Go.RowKit
end Go.Proofs.Ytjmkbglnjklbcaa.Am
set_option linter.unusedSimpArgs false
set_option linter.unusedVariables false
namespace Go.Proofs.Ytjmkbglnjklbcaa.Am
open Go Go.RowKit
end Go.Proofs.Ytjmkbglnjklbcaa.Am
set_option linter.unusedSimpArgs false
set_option linter.unusedVariables false
namespace Go.Proofs.Ytjmkbglnjklbcaa.Am
open Go Go.RowKit
end Go.Proofs.Ytjmkbglnjklbcaa.Am
set_option linter.unusedSimpArgs false
set_option linter.unusedVariables false
namespace Go.Proofs.Ytjmkbglnjklbcaa.Am
open Go Go.RowKit
structure Acd where
 kind : Int
 pid : Int
 pc : Int
 t : Tm
abbrev actV (kind pid pc k n : Int) (s : ByteArray) (a : Option Addr) (m : Nat) : List Value := [.int .i64 kind, .int .i64 pid, .int .i64 pc, .int .i64 k, .int .i64 n, .string s, .slice a m m]
def Tm.kd : Tm → Int | .mk k _ _ _ => k
theorem TsR.part {h : AH} {p : Nat → Prop} {f : Nat} {l : List Tm} {a : Option Addr} (x : TsR h p f l a) {i n : Nat} (hin : i + n ≤ l.length) : TsR h p f ((l.drop i).take n) (shiftA a (i * 4)) := by
 obtain ⟨vs, h1, h2, h3, h4⟩ := x
 refine ⟨(vs.drop (i * 4)).take (n * 4), h1.part (by omega), ?_, ?_, fun j t hj => ?_⟩
 ·rcases h2 with e | h2
  ·exact .inl (by rw [e]; simp)
  ·refine .inr fun b hb => ?_
   obtain ⟨ad, e, hb⟩ := hb
   cases a with
   | none => cases e
   | some a0 =>
    injection e with e
    subst e
    exact h2 b ⟨a0, rfl, hb⟩
 ·simp; omega
 ·have hjn : j < n := by have := (List.getElem?_eq_some_iff.1 hj).1; simp at this; omega
  rw [List.getElem?_take_of_lt hjn, List.getElem?_drop] at hj
  have := h4 _ _ hj
  rw [show (((vs.drop (i * 4)).take (n * 4)).drop (j * 4)).take 4 = (vs.drop ((i + j) * 4)).take 4 from ?_]
  ·exact this
  ·apply List.ext_getElem?
   intro q
   by_cases hq : q < 4
   ·rw [List.getElem?_take_of_lt hq, List.getElem?_take_of_lt hq, List.getElem?_drop, List.getElem?_drop, List.getElem?_take_of_lt (by omega), List.getElem?_drop, show i * 4 + (j * 4 + q) = (i + j) * 4 + q from by omega]
   ·rw [List.getElem?_eq_none (by simp; omega), List.getElem?_eq_none (by simp; omega)]
theorem termV_leaf {cs : List Value} {h : AH} {p : Nat → Prop} {f : Nat} {t : Tm} (x : TmR h p f t cs) : ∀ v ∈ cs, leaf v = true := by
 obtain ⟨k, n, s, a, m, rfl⟩ := x.form
 intro v hv
 simp only [List.mem_cons, List.not_mem_nil, or_false] at hv
 rcases hv with rfl | rfl | rfl | rfl <;> rfl
theorem TsR.raw {h : AH} {p : Nat → Prop} {f : Nat} {l : List Tm} {a : Option Addr} (x : TsR h p f l a) : ∃ vs, rawAt h a (l.length * 4) = some vs ∧ vs.length = l.length * 4 ∧ ∀ i t, l[i]? = some t → TmR h p f t ((vs.drop (i * 4)).take 4) := by
 obtain ⟨vs, h1, h2, h3, h4⟩ := x
 refine ⟨vs, ?_, h3, h4⟩
 rw [← h3]
 refine h1.raw ?_
 rw [List.all_eq_true]
 intro v hv
 obtain ⟨q, hq, rfl⟩ := List.mem_iff_getElem.1 hv
 have hi : q / 4 < l.length := by omega
 have hm := h4 (q / 4) _ (List.getElem?_eq_getElem hi)
 refine termV_leaf hm _ (List.mem_iff_getElem.2 ⟨q % 4, by simp; omega, ?_⟩)
 simp only [List.getElem_take, List.getElem_drop]
 congr 1
 omega
theorem RowO.getG {base t f : Nat} {S : Fp} {h : AH} {l : List Tm} {al : Option Addr} (x : RowO base t 4 (TmG base f) S h l al) {i : Nat} (hi : i < l.length) :
  ∃ ad k n s a2 m C, al = some ad ∧ ad.block < h.length ∧ Am.cell h ad.block (ad.off + i * 4) = some (.int .i64 k) ∧ Am.cell h ad.block (ad.off + i * 4 + 1) = some (.int .i64 n) ∧ Am.cell h ad.block (ad.off + i * 4 + 1 + 1) = some (.string s) ∧ Am.cell h ad.block (ad.off + i * 4 + 1 + 1 + 1) = some (.slice a2 m m) ∧ TmG base f C h l[i] (termV k n s a2 m) ∧ (∀ b, C b → S b) := by
 obtain ⟨vs, T, x1, x2, x3, x4, C, c1, c2, c3⟩ := x
 have hm := c3 i _ (List.getElem?_eq_getElem hi)
 obtain ⟨k, n, s, a2, m, e⟩ := hm.form
 rw [e] at hm
 have each : ∀ (j : Nat) (v : Value), (termV k n s a2 m)[j]? = some v → vs[i * 4 + j]? = some v := by
  intro j v hv
  have hj : j < 4 := by have := (List.getElem?_eq_some_iff.1 hv).1; simpa using this
  rw [← e] at hv
  unfold chunk at hv
  rw [List.getElem?_take_of_lt hj, List.getElem?_drop] at hv
  exact hv
 have hne : vs ≠ [] := by intro e; subst e; simp at x2; omega
 rcases x1 with ⟨_, e2⟩ | ⟨ad, kk, e1, _, e2, _, _, e4⟩
 ·exact absurd e2 hne
 ·have c : ∀ (j : Nat) (v : Value), (termV k n s a2 m)[j]? = some v → Am.cell h ad.block (ad.off + i * 4 + j) = some v := by
   intro j v hv
   have := e4 _ _ (each j v hv)
   rw [Nat.add_assoc]
   simp [Am.cell, e2, this]
  exact ⟨ad, k, n, s, a2, m, C i, e1, hget_lt e2, c 0 _ rfl, c 1 _ rfl, c 2 _ rfl, c 3 _ rfl, hm, fun b hb => x4 b (c1 i b hb)⟩
theorem RowO.tyOk {α : Type} {w base t : Nat} {P : Fp → AH → α → List Value → Prop} {S : Fp} {h : AH} {l : List α} {a : Option Addr} (x : RowO base t w P S h l a) (n : Nat) : okTy base h a t n = true := by
 obtain ⟨vs, T, x1, _⟩ := x
 exact (TyOk.own x1).ok n
end Go.Proofs.Ytjmkbglnjklbcaa.Am
set_option linter.unusedSimpArgs false
set_option linter.unusedVariables false
namespace Go.Proofs.Ytjmkbglnjklbcaa.Am
open Go Go.RowKit
theorem copyIntsO_run {base : Nat} {h : AH} {a : Option Addr} {xs : List Int} (hs : Sl h a (iv .i64 xs)) (hl : xs.length ≤ 1048576 * 4) (hb : base ≤ h.length) :
  ∃ a' h', run (Et base) 110 [.slice a xs.length xs.length] h = some (.slice a' xs.length xs.length, h') ∧ Own base 3 h' a' (iv .i64 xs) ∧ KB NoB h h' ∧ (∀ b, blk a' b → h.length ≤ b) := by
 have hr : rawAt h a (xs.length * 1) = some (iv .i64 xs) := by
  have := hs.raw (iv_leaf _ _)
  simpa using this
 obtain ⟨a1, h1, g1, g2, g3, g4⟩ := Own.app (x := (.inl ⟨rfl, rfl⟩ : Own base 3 h none [])) (bytes := 8) (n := 0) (m := xs.length) (sz := 1) (by simp) (by simp) hr hb (by omega) (by omega) (by simp)
 simp only [Nat.zero_add, List.nil_append] at g1 g2
 refine ⟨a1, h1, Am.r110 (Am.bs g1 (Am.bS rfl rfl)), g2, g3.mono (fun i hi ⟨ad, e, _⟩ => by cases e), fun b hb' => ?_⟩
 rcases g4 with ⟨_, e, _⟩ | g4
 ·rw [e] at hb'; obtain ⟨_, e, _⟩ := hb'; cases e
 ·have := g4 b hb'; omega
end Go.Proofs.Ytjmkbglnjklbcaa.Am
set_option linter.unusedSimpArgs false
set_option linter.unusedVariables false
namespace Go.Proofs.Ytjmkbglnjklbcaa.Am
open Go Go.RowKit
theorem TmG.parts {base f : Nat} {S : Fp} {h : AH} {t : Tm} {k n : Int} {s : ByteArray} {a : Option Addr} {m : Nat} (x : TmG base (f + 1) S h t (termV k n s a m)) : ∃ l, t = .mk k n s l ∧ m = l.length ∧ s.size ≤ maxLen ∧ l.length ≤ maxLen ∧ RowO base 39 4 (TmG base f) S h l a := by
 obtain ⟨k', n', s', l⟩ := t
 obtain ⟨h1, h2, a', ecs, r⟩ := x
 injection ecs with q0 ecs
 injection ecs with q1 ecs
 injection ecs with q2 ecs
 injection ecs with q3 _
 injection q0 with _ q0; injection q1 with _ q1; injection q2 with q2; injection q3 with q3 q4 _
 subst q0; subst q1; subst q2; subst q3
 exact ⟨l, rfl, q4, h1, h2, r⟩
end Go.Proofs.Ytjmkbglnjklbcaa.Am
set_option linter.unusedSimpArgs false
set_option linter.unusedVariables false
namespace Go.Proofs.Ytjmkbglnjklbcaa.Am
open Go Go.RowKit
section
variable {α : Type} {w : Nat} {P : Fp → AH → α → List Value → Prop}
theorem RowO.imp {Q : Fp → AH → α → List Value → Prop} {base t : Nat} {S : Fp} {h : AH} {l : List α} {a : Option Addr} (hPQ : ∀ S h x cs, P S h x cs → Q S h x cs) (x : RowO base t w P S h l a) : RowO base t w Q S h l a := by
 obtain ⟨vs, T, x1, x2, x3, x4, x5⟩ := x
 exact ⟨vs, T, x1, x2, x3, x4, x5.imp hPQ⟩
theorem Own.wrA {base t : Nat} {h : AH} {a : Option Addr} {vs : List Value} (x : Own base t h a vs) {i : Nat} {new : List Value} (hi : i + new.length ≤ vs.length) (h0 : 0 < new.length) :
  ∃ ad h', a = some ad ∧ Am.wr base h ad.block (ad.off + i) new = some h' ∧ Own base t h' a (setAt vs i new) ∧ KB (blk a) h h' ∧ h'.length = h.length := by
 obtain ⟨ad, h', e, h1, h2, h3, h4⟩ := x.wr hi h0
 exact ⟨ad, h', e, h1, h2, h3, h4⟩
theorem RowO.put (kp : Kp P) {base t : Nat} {S C : Fp} {h : AH} {l : List α} {a : Option Addr} (x : RowO base t w P S h l a) {i : Nat} (hi : i < l.length) {y : α} {cs : List Value} (hy : P C h y cs) (hc : cs.length = w) (hw : 0 < w) (hC : ∀ b, C b → ¬ S b) :
  ∃ ad h', a = some ad ∧ Am.wr base h ad.block (ad.off + i * w) cs = some h' ∧ RowO base t w P (fun b => S b ∨ C b) h' (l.set i y) a ∧ KB (blk a) h h' ∧ h'.length = h.length := by
 obtain ⟨vs, T, x1, x2, x3, x4, C0, c1, c2, c3⟩ := x
 have hle := mul_le' (w := w) hi
 obtain ⟨ad, h', e, w1, w2, w3, w4⟩ := x1.wrA (i := i * w) (new := cs) (by omega) (by omega)
 refine ⟨ad, h', e, w1, ⟨setAt vs (i * w) cs, fun b => T b ∨ C b, w2, by simp [setAt]; omega, fun b hb => ⟨.inl (x3 b hb).1, fun hh => ?_⟩, fun b hb => hb.imp (x4 b) id, fun q b => if q = i then C b else C0 q b, fun q b hb => ?_, fun q j b hq hb hb' => ?_, fun q z hz => ?_⟩, w3, w4⟩
 ·rcases hh with hh | hh
  ·exact (x3 b hb).2 hh
  ·exact hC b hh (x3 b hb).1
 ·simp only at hb
  split at hb
  ·exact .inr hb
  ·exact .inl (c1 q b hb)
 ·simp only at hb hb'
  split at hb
  ·split at hb'
   ·omega
   ·exact hC b hb (x4 b (c1 j b hb'))
  ·split at hb'
   ·exact hC b hb' (x4 b (c1 q b hb))
   ·exact c2 q j b hq hb hb'
 ·by_cases eq : q = i
  ·subst eq
   rw [List.getElem?_set_self hi] at hz
   injection hz with hz
   subst hz
   have ee : (fun b => if q = q then C b else C0 q b) = C := by funext b; simp
   show P (fun b => if q = q then C b else C0 q b) h' y (chunk w q (setAt vs (q * w) cs))
   rw [ee, chunk_setAt_self hc (by omega)]
   exact kp _ _ _ _ _ _ w3 (fun b hb hk => hC b hb (x3 b hk).1) hy
  ·rw [List.getElem?_set_ne (by omega)] at hz
   have ee : (fun b => if q = i then C b else C0 q b) = C0 q := by funext b; simp [eq]
   show P (fun b => if q = i then C b else C0 q b) h' z (chunk w q (setAt vs (i * w) cs))
   rw [ee, chunk_setAt_other hc (by omega) eq]
   exact kp _ _ _ _ _ _ w3 (fun b hb hk => (x3 b hk).2 (c1 q b hb)) (c3 q z hz)
theorem RowO.uncons (kp : Mo P) {base t : Nat} {S : Fp} {h : AH} {x : α} {l : List α} {a : Option Addr} (r : RowO base t w P S h (x :: l) a) (hw : 0 < w) :
  ∃ C cs ad, P C h x cs ∧ a = some ad ∧ (∀ j v, cs[j]? = some v → Am.cell h ad.block (ad.off + j) = some v) ∧ (∀ b, C b → S b) ∧ (∀ b, blk a b → ¬ C b) ∧ RowO base t w P (fun b => S b ∧ ¬ C b) h l (shiftA a (1 * w)) := by
 obtain ⟨vs, T, x1, x2, x3, x4, C0, c1, c2, c3⟩ := r
 simp only [List.length_cons] at x2
 have x2 : vs.length = l.length * w + w := by rw [x2, Nat.add_one_mul]
 rcases x1 with ⟨_, e⟩ | ⟨ad, k, e1, e2, e3, e4, e5, e6⟩
 ·subst e; simp at x2; omega
 have bs : ∀ b, blk (shiftA a (1 * w)) b → blk a b := fun b hb => by
  obtain ⟨ad, e, hb⟩ := hb
  cases a with
  | none => cases e
  | some a0 =>
   injection e with e
   subst e
   exact ⟨a0, rfl, hb⟩
 refine ⟨C0 0, chunk w 0 vs, ad, c3 0 x rfl, e1, fun j v hj => ?_, fun b hb => x4 b (c1 0 b hb), fun b hb hc => (x3 b hb).2 (c1 0 b hc), vs.drop w, fun b => T b ∧ ¬ C0 0 b, ?_, by simp [x2], fun b hb => ?_, fun b hb => ⟨x4 b hb.1, hb.2⟩, fun q => C0 (q + 1), fun q b hb => ⟨c1 _ b hb, fun hh => c2 _ _ b (by omega) hb hh⟩, fun q j b hq hb => c2 _ _ b (by omega) hb, fun q z hz => ?_⟩
 ·have hj' : j < w := by have := (List.getElem?_eq_some_iff.1 hj).1; simp [chunk] at this; omega
  rw [chunk, List.getElem?_take_of_lt hj', List.getElem?_drop, Nat.zero_mul, Nat.zero_add] at hj
  have := e6 _ _ hj
  simp [Am.cell, e3, this]
 ·subst e1
  refine .inr ⟨_, k, rfl, e2, e3, e4, by simp [x2]; omega, fun i v hi => ?_⟩
  rw [List.getElem?_drop] at hi
  have := e6 _ _ hi
  simp only [Nat.one_mul, Nat.add_assoc]
  exact this
 ·have := x3 b (bs b hb)
  exact ⟨⟨this.1, fun hh => this.2 (c1 0 b hh)⟩, fun hh => this.2 hh.1⟩
 ·have := c3 (q + 1) z (by simpa using hz)
  have e : chunk w q (vs.drop w) = chunk w (q + 1) vs := by
   simp only [chunk, List.drop_drop]
   congr 2
   rw [Nat.add_one_mul]; omega
  rw [e]
  exact this
end
theorem AcG.take {base f : Nat} {S : Fp} {h : AH} {A : Ac} {cs : List Value} (x : AcG base f S h A cs) {i : Nat} (hi : i < A.regs.length) {t : Tm} {B : List Tm} (eB : A.box = t :: B) :
  ∃ a b g k n s a' m h', cs = acV A.pid A.pc (some a) A.regs.length (some b) A.box.length g A.links.length ∧ Am.cell h b.block b.off = some (.int .i64 k) ∧ Am.cell h b.block (b.off + 1) = some (.int .i64 n) ∧ Am.cell h b.block (b.off + 1 + 1) = some (.string s) ∧ Am.cell h b.block (b.off + 1 + 1 + 1) = some (.slice a' m m) ∧
   Am.wr base h a.block (a.off + i * 4) (termV k n s a' m) = some h' ∧ (∀ q, okTy base h' (some b) 39 q = true) ∧ AcG base f S h' ⟨A.pid, A.pc, A.regs.set i t, B, A.links⟩ (acV A.pid A.pc (some a) A.regs.length (shiftA (some b) (1 * 4)) B.length g A.links.length) ∧ KB S h h' ∧ h'.length = h.length := by
 obtain ⟨a, b, g, S1, S2, S3, rfl, r1, r2, r3, hg, s1, s2, s3, d1, d2, d3⟩ := x
 have r2' := r2
 rw [eB] at r2'
 have hb1 : ∀ b, blk a b → S1 b := by obtain ⟨vs, T, w1, w2, w3, _⟩ := r1; exact fun b hb => (w3 b hb).1
 have hb2 : ∀ x, blk b x → S2 x := by obtain ⟨vs, T, w1, w2, w3, _⟩ := r2; exact fun b hb => (w3 b hb).1
 obtain ⟨C, tcs, bd, hC, rfl, cells, hCS, hCb, rt⟩ := r2'.uncons (TmG.mo _ _) (by decide)
 obtain ⟨k, n, s, a', m, rfl⟩ := hC.form
 obtain ⟨ad, h', rfl, w1, w2, w3, w4⟩ := r1.put (TmG.kp _ _) hi hC rfl (by decide) fun b hb hs => d1 b hs (hCS b hb)
 have rt' := rt.keep (TmG.kp _ _) w3 fun b hb hk => d1 b (hb1 b hk) hb.1
 refine ⟨ad, bd, g, k, n, s, a', m, h', rfl, by simpa using cells 0 _ rfl, cells 1 _ rfl, cells 2 _ rfl, cells 3 _ rfl, w1, fun q => (r2.keep (TmG.kp _ _) w3 fun b hb hk => d1 b (hb1 b hk) hb).tyOk q, ⟨some ad, shiftA (some bd) (1 * 4), g, fun b => S1 b ∨ C b, fun b => S2 b ∧ ¬ C b, S3, by simp, w2, rt', r3.keep w3 fun b hb hk => d2 b (hb1 b hk) (hg b hb), hg, fun b hb => hb.elim (s1 b) fun hb => s2 b (hCS b hb), fun b hb => s2 b hb.1, s3, fun b hb hs => ?_, fun b hb hs => ?_, fun b hb => d3 b hb.1⟩, w3.mono fun b _ hb => s1 b (hb1 b hb), w4⟩
 ·rcases hb with hb | hb
  ·exact d1 b hb hs.1
  ·exact hs.2 hb
 ·rcases hb with hb | hb
  ·exact d2 b hb hs
  ·exact d3 b (hCS b hb) hs
end Go.Proofs.Ytjmkbglnjklbcaa.Am
set_option linter.unusedSimpArgs false
set_option linter.unusedVariables false
namespace Go.Proofs.Ytjmkbglnjklbcaa.Am
open Go Go.RowKit
end Go.Proofs.Ytjmkbglnjklbcaa.Am
set_option linter.unusedSimpArgs false
set_option linter.unusedVariables false
namespace Go.Proofs.Ytjmkbglnjklbcaa.Am
open Go Go.RowKit
end Go.Proofs.Ytjmkbglnjklbcaa.Am
set_option linter.unusedSimpArgs false
set_option linter.unusedVariables false
namespace Go.Proofs.Ytjmkbglnjklbcaa.Am
open Go Go.RowKit
def StepQ (base F : Nat) (h : AH) (r : Ac × Acd) (o : Value × AH) : Prop :=
 ∃ cs k n s a m S T, o.1 = .tuple #[.agg cs.toArray, .agg (actV r.2.kind r.2.pid r.2.pc k n s a m).toArray] ∧ AcG base F S o.2 r.1 cs ∧ TmG base F T o.2 r.2.t (termV k n s a m) ∧ (∀ b, S b → ¬ T b) ∧ (∀ b, S b → h.length ≤ b ∧ b < o.2.length) ∧ (∀ b, T b → h.length ≤ b ∧ b < o.2.length) ∧ KB NoB h o.2
end Go.Proofs.Ytjmkbglnjklbcaa.Am
set_option linter.unusedSimpArgs false
set_option linter.unusedVariables false
namespace Go.Proofs.Ytjmkbglnjklbcaa.Am
open Go Go.RowKit
end Go.Proofs.Ytjmkbglnjklbcaa.Am
set_option linter.unusedSimpArgs false
set_option linter.unusedVariables false
namespace Go.Proofs.Ytjmkbglnjklbcaa.Am
open Go Go.RowKit
def MkQ (base F : Nat) (h : AH) (o : Option Tm) (r : Value × AH) : Prop :=
 ∃ k n s a m b, r.1 = .tuple #[.agg (termV k n s a m).toArray, .bool b] ∧ KB NoB h r.2 ∧ match o with
  | none => b = false
  | some t => b = true ∧ TmG base F (iS h.length r.2.length) r.2 t (termV k n s a m)
theorem MkQ.ok {base F : Nat} {h h' : AH} {k n : Int} {s : ByteArray} {a : Option Addr} {l : List Tm} {m : Nat} (kb : KB NoB h h') (x : TmG base F (iS h.length h'.length) h' (.mk k n s l) (termV k n s a m)) : MkQ base F h (some (.mk k n s l)) (.tuple #[.agg (termV k n s a m).toArray, .bool true], h') :=
 ⟨k, n, s, a, m, true, rfl, kb, rfl, x⟩
theorem MkQ.no {base F : Nat} {h h' : AH} {k n : Int} {s : ByteArray} {a : Option Addr} {m : Nat} (kb : KB NoB h h') : MkQ base F h none (.tuple #[.agg (termV k n s a m).toArray, .bool false], h') :=
 ⟨k, n, s, a, m, false, rfl, kb, rfl⟩
theorem W.o4 {β : Type} {Q : β → Prop} {base t g : Nat} {S : Fp} {h : AH} {l : List Tm} {a : Option Addr} (hs : RowO base t 4 (TmG base (g + 1)) S h l a) {i : Nat} (hi : i < l.length) {f : Int → Int → ByteArray → Option Addr × Nat → Option β} (w : ∀ k n s a2 l2, l[i] = .mk k n s l2 → TmG base (g + 1) S h (.mk k n s l2) (termV k n s a2 l2.length) → RowO base 39 4 (TmG base g) S h l2 a2 → s.size ≤ maxLen → l2.length ≤ maxLen → Wp (f k n s (a2, l2.length)) Q) :
  Wp (a.bind fun ad => ((Am.cell h ad.block (ad.off + i * 4)).bind (getI .i64)).bind fun n1 => ((Am.cell h ad.block (ad.off + i * 4 + 1)).bind (getI .i64)).bind fun n2 => ((Am.cell h ad.block (ad.off + i * 4 + 1 + 1)).bind getStr).bind fun s3 => ((Am.cell h ad.block (ad.off + i * 4 + 1 + 1 + 1)).bind getS).bind fun l4 => f n1 n2 s3 l4) Q := by
 obtain ⟨ad, k, n, s, a2, m, C, rfl, _, g0, g1, g2, g3, hm, hC⟩ := hs.getG hi
 obtain ⟨l2, e, rfl, h1, h2, r⟩ := hm.parts
 refine W.bs rfl (W.bI g0 (W.bI g1 (W.bT g2 (W.bS g3 (w k n s a2 l2 e ?_ (r.mono hC) h1 h2)))))
 rw [← e]
 exact TmG.mo _ _ _ _ _ _ _ hC hm
theorem TmG.eq {base f : Nat} {S : Fp} {h : AH} {k n k' n' : Int} {s s' : ByteArray} {l : List Tm} {a : Option Addr} {m : Nat} (x : TmG base f S h (.mk k n s l) (termV k' n' s' a m)) : k = k' ∧ n = n' ∧ s = s' ∧ m = l.length := by
 cases f with
 | zero => exact x.elim
 | succ f =>
  obtain ⟨l2, e, hm, _⟩ := TmG.parts x
  injection e with t1 t2 t3 t4
  exact ⟨t1, t2, t3, by rw [hm, t4]⟩
end Go.Proofs.Ytjmkbglnjklbcaa.Am
set_option linter.unusedSimpArgs false
set_option linter.unusedVariables false
namespace Go.Proofs.Ytjmkbglnjklbcaa.Am
open Go Go.RowKit
section
variable {α : Type} {w : Nat} {P : Fp → AH → α → List Value → Prop}
theorem chunk_app_right {w n i : Nat} {vs cs : List Value} (hv : vs.length = n * w) (hi : n ≤ i) : chunk w i (vs ++ cs) = chunk w (i - n) cs := by
 have h := Nat.mul_le_mul_right w hi
 rw [chunk, chunk, List.drop_append, List.drop_eq_nil_of_le (by omega), List.nil_append, hv, Nat.sub_mul]
theorem Chunks.app {S C : Fp} {h : AH} {l l2 : List α} {vs vs2 : List Value} (x : Chunks w P S h l vs) (y : Chunks w P C h l2 vs2) (hv : vs.length = l.length * w) (hd : ∀ b, S b → ¬ C b) : Chunks w P (fun b => S b ∨ C b) h (l ++ l2) (vs ++ vs2) := by
 obtain ⟨A, a1, a2, a3⟩ := x
 obtain ⟨B, b1, b2, b3⟩ := y
 refine ⟨fun i => if i < l.length then A i else B (i - l.length), fun i b hb => ?_, fun i j b hij hi hj => ?_, fun i z hz => ?_⟩
 ·simp only at hb
  split at hb
  ·exact .inl (a1 _ b hb)
  ·exact .inr (b1 _ b hb)
 ·simp only at hi hj
  split at hi
  ·split at hj
   ·exact a2 _ _ b hij hi hj
   ·exact hd b (a1 _ b hi) (b1 _ b hj)
  ·split at hj
   ·exact hd b (a1 _ b hj) (b1 _ b hi)
   ·exact b2 _ _ b (by omega) hi hj
 ·by_cases hi : i < l.length
  ·rw [List.getElem?_append_left hi] at hz
   have hle := mul_le' (w := w) hi
   show P (if i < l.length then A i else B (i - l.length)) h z (chunk w i (vs ++ vs2))
   rw [if_pos hi, chunk_app_other (by omega)]
   exact a3 i z hz
  ·rw [List.getElem?_append_right (by omega)] at hz
   show P (if i < l.length then A i else B (i - l.length)) h z (chunk w i (vs ++ vs2))
   rw [if_neg hi, chunk_app_right hv (by omega)]
   exact b3 _ z hz
theorem chunk_part {w i n q : Nat} {vs : List Value} (hq : q < n) : chunk w q ((vs.drop (i * w)).take (n * w)) = chunk w (i + q) vs := by
 have := mul_le' (w := w) hq
 rw [chunk, chunk, List.drop_take, List.drop_drop, List.take_take, Nat.add_mul]
 congr 1
 omega
theorem Chunks.part {S : Fp} {h : AH} {l : List α} {vs : List Value} (x : Chunks w P S h l vs) (i n : Nat) : Chunks w P S h ((l.drop i).take n) ((vs.drop (i * w)).take (n * w)) := by
 obtain ⟨A, a1, a2, a3⟩ := x
 refine ⟨fun q => A (i + q), fun q b hb => a1 _ b hb, fun q j b hq hb hb' => a2 _ _ b (by omega) hb hb', fun q z hz => ?_⟩
 have hq : q < n := by have := (List.getElem?_eq_some_iff.1 hz).1; simp at this; omega
 rw [List.getElem?_take_of_lt hq, List.getElem?_drop] at hz
 rw [chunk_part hq]
 exact a3 _ z hz
theorem Chunks.leaf {T : Fp} {h : AH} {l : List α} {vs : List Value} (hlf : ∀ S h x cs, P S h x cs → cs.all leaf = true) (hw : 0 < w) (ch : Chunks w P T h l vs) (ev : vs.length = l.length * w) : vs.all leaf = true := by
 obtain ⟨C, _, _, c3⟩ := ch
 rw [List.all_eq_true]
 intro v hv
 obtain ⟨q, hq, rfl⟩ := List.mem_iff_getElem.1 hv
 have hi : q / w < l.length := Nat.div_lt_of_lt_mul (by rw [Nat.mul_comm]; omega)
 have hm := hlf _ _ _ _ (c3 (q / w) _ (List.getElem?_eq_getElem hi))
 rw [List.all_eq_true] at hm
 have hmod : q % w < w := Nat.mod_lt _ hw
 have hdm : q / w * w + q % w = q := by rw [Nat.mul_comm]; exact Nat.div_add_mod q w
 refine hm _ (List.mem_iff_getElem?.2 ⟨q % w, ?_⟩)
 rw [chunk, List.getElem?_take_of_lt hmod, List.getElem?_drop, hdm, List.getElem?_eq_getElem hq]
end
end Go.Proofs.Ytjmkbglnjklbcaa.Am
set_option linter.unusedSimpArgs false
set_option linter.unusedVariables false
namespace Go.Proofs.Ytjmkbglnjklbcaa.Am
open Go Go.RowKit
end Go.Proofs.Ytjmkbglnjklbcaa.Am
set_option linter.unusedSimpArgs false
set_option linter.unusedVariables false
namespace Go.Proofs.Ytjmkbglnjklbcaa.Am
open Go Go.RowKit
theorem StepQ.of {base F : Nat} {h0 h : AH} {D : Ds} {R : List Rs} {A : Ac} {cs : List Value} {S1 T : Fp} {AA : AH → Prop} {kd pid pc k n : Int} {s : ByteArray} {a : Option Addr} {m : Nat} {t : Tm} (d : Hs base NoB h0 h D R) {i : Nat} (e : R[i]? = some ⟨S1, true, AA⟩) (hA : AcG base F S1 h A cs) (ht : TmG base F T h t (termV k n s a m)) (hd : ∀ b, S1 b → ¬ T b) (hT : ∀ b, T b → h0.length ≤ b ∧ b < h.length) : StepQ base F h0 (A, ⟨kd, pid, pc, t⟩) (.tuple #[.agg cs.toArray, .agg (actV kd pid pc k n s a m).toArray], h) :=
 ⟨cs, k, n, s, a, m, S1, T, rfl, hA, ht, hd, fun b hb => ⟨(d.rfr e rfl b hb).resolve_left fun h => h, d.rlt e b hb⟩, hT, d.kb⟩
end Go.Proofs.Ytjmkbglnjklbcaa.Am
set_option linter.unusedSimpArgs false
set_option linter.unusedVariables false
namespace Go.Proofs.Ytjmkbglnjklbcaa.Am
open Go Go.RowKit
structure Gn where
 old : List Int
 young : List Int
 mark : Int
def GnS (h : AH) (oa ya : Option Addr) (G : Gn) : Prop := Sl h oa (iv .i64 G.old) ∧ Sl h ya (iv .i64 G.young)
def wOk (n : Int) : Prop := -9223372036854775808 ≤ n ∧ n ≤ 9223372036854775807
def Gn.Ok (G : Gn) : Prop := G.old.length ≤ 1048576 ∧ G.young.length ≤ 1048576 ∧ (∀ n ∈ G.old, wOk n) ∧ ∀ n ∈ G.young, wOk n
def ati (l : List Int) (p : Int) : Option Int := if 0 ≤ p then l[p.toNat]? else none
def gwd (G : Gn) (p : Int) : Option Int := if 100000 ≤ p then ati G.young (p - 100000) else ati G.old p
theorem ati_ok {l : List Int} {p n : Int} (e : ati l p = some n) : n ∈ l ∧ 0 ≤ p ∧ p < l.length := by
 unfold ati at e
 split at e
 ·rename_i h
  obtain ⟨h1, h2⟩ := List.getElem?_eq_some_iff.1 e
  exact ⟨h2 ▸ List.getElem_mem _, h, by omega⟩
 ·cases e
theorem gwd_ok {G : Gn} (hG : G.Ok) {p n : Int} (e : gwd G p = some n) : wOk n ∧ 0 ≤ p ∧ p < 1148576 := by
 obtain ⟨h1, h2, h3, h4⟩ := hG
 unfold gwd at e
 split at e
 ·obtain ⟨a, b, c⟩ := ati_ok e; exact ⟨h4 n a, by omega, by omega⟩
 ·obtain ⟨a, b, c⟩ := ati_ok e; exact ⟨h3 n a, by omega, by omega⟩
end Go.Proofs.Ytjmkbglnjklbcaa.Am
set_option linter.unusedSimpArgs false
set_option linter.unusedVariables false
namespace Go.Proofs.Ytjmkbglnjklbcaa.Am
open Go Go.RowKit
def wpart (D : Ds) (R : List Rs) : Fp := fun b => (∃ x ∈ D, x.1 = b) ∨ ∃ r ∈ R, r.mu = true ∧ r.S b
namespace Hs
variable {base : Nat} {W : Fp} {h0 h : AH} {D : Ds} {R : List Rs}
theorem tl {x : Nat × Nat × List Value} (d : Hs base W h0 h (x :: D) R) : Hs base W h0 h D R :=
 ⟨d.ge, d.kb, fun y hy => d.own y (.tail _ hy), (List.nodup_cons.1 d.nd).2, fun r hr => by
  obtain ⟨r1, r2, r3, r4, r5⟩ := d.res r hr
  exact ⟨r1, r2, r3, r4, fun y hy => r5 y (.tail _ hy)⟩, d.dj⟩
theorem takeR (d : Hs base W h0 h D R) (n : Nat) : Hs base W h0 h D (R.take n) :=
 ⟨d.ge, d.kb, d.own, d.nd, fun r hr => d.res r (List.mem_of_mem_take hr), d.dj.sublist (List.take_sublist _ _)⟩
theorem front {x : Nat × Nat × List Value} {D' : Ds} (d : Hs base W h0 h D R) (u : Del D x D') : Hs base W h0 h (x :: D') R := by
 obtain ⟨n1, n2⟩ := u.others d.nd
 refine ⟨d.ge, d.kb, fun y hy => ?_, ?_, fun r hr => ?_, d.dj⟩
 ·rcases List.mem_cons.1 hy with rfl | hy
  ·exact d.own _ u.mem
  ·exact d.own y (u.of y hy)
 ·rw [List.map_cons, List.nodup_cons]
  refine ⟨fun hm => ?_, n1⟩
  obtain ⟨y, hy, e⟩ := List.mem_map.1 hm
  exact n2 y hy e
 ·obtain ⟨r1, r2, r3, r4, r5⟩ := d.res r hr
  refine ⟨r1, r2, r3, r4, fun y hy => ?_⟩
  rcases List.mem_cons.1 hy with rfl | hy
  ·exact r5 _ u.mem
  ·exact r5 y (u.of y hy)
theorem pull {l l' : List Rs} {r : Rs} (u : Del l r l') (p : l.Pairwise Rs.dj) : (r :: l').Pairwise Rs.dj := by
 induction u with
 | here => exact p
 | @there x z l l' u ih =>
  rw [List.pairwise_cons] at p
  have := ih p.2
  rw [List.pairwise_cons] at this ⊢
  refine ⟨fun s hs => ?_, ?_⟩
  ·rcases List.mem_cons.1 hs with rfl | hs
   ·exact (p.1 _ u.mem).symm
   ·exact this.1 s hs
  ·rw [List.pairwise_cons]
   exact ⟨fun s hs => p.1 s (u.of s hs), this.2⟩
theorem frontR {r : Rs} {R' : List Rs} (d : Hs base W h0 h D R) (u : Del R r R') : Hs base W h0 h D (r :: R') := by
 refine ⟨d.ge, d.kb, d.own, d.nd, fun s hs => ?_, pull u d.dj⟩
 rcases List.mem_cons.1 hs with rfl | hs
 ·exact d.res _ u.mem
 ·exact d.res s (u.of s hs)
theorem part {D1 D2 : Ds} {R1 R2 : List Rs} (d : Hs base W h0 h (D1 ++ D2) (R1 ++ R2)) : Hs base (wpart D1 R1) h h D1 R1 := by
 refine ⟨d.ge, KB.refl _ _, fun x hx => ⟨(d.own x (List.mem_append_left _ hx)).1, .inl (.inl ⟨x, hx, rfl⟩)⟩, ?_, fun r hr => ?_, (List.pairwise_append.1 d.dj).1⟩
 ·have := d.nd
  rw [List.map_append] at this
  exact (List.nodup_append.1 this).1
 ·obtain ⟨r1, r2, r3, r4, r5⟩ := d.res r (List.mem_append_left _ hr)
  exact ⟨r1, r2, r3, fun m b hb => .inl (.inr ⟨r, hr, m, hb⟩), fun x hx => r5 x (List.mem_append_left _ hx)⟩
theorem back {D1 D2 D1' : Ds} {R1 R2 R1' : List Rs} {h' : AH} (d : Hs base W h0 h (D1 ++ D2) (R1 ++ R2)) (d' : Hs base (wpart D1 R1) h h' D1' R1') (him : ∀ r ∈ R1', r.mu = false → ∃ r0 ∈ R1, r0.mu = false ∧ r0.S = r.S) : Hs base W h0 h' (D1' ++ D2) (R1' ++ R2) := by
 have nd := d.nd
 rw [List.map_append] at nd
 obtain ⟨nd1, nd2, nd3⟩ := List.nodup_append.1 nd
 obtain ⟨p1, p2, p3⟩ := List.pairwise_append.1 d.dj
 have n0 := d.kb.1
 have wW : ∀ b, wpart D1 R1 b → W b ∨ h0.length ≤ b := by
  rintro b (⟨x, hx, rfl⟩ | ⟨r, hr, m, hb⟩)
  ·exact (d.own x (List.mem_append_left _ hx)).2
  ·exact (d.res r (List.mem_append_left _ hr)).2.2.2.1 m b hb
 have wlt : ∀ b, wpart D1 R1 b → b < h.length := by
  rintro b (⟨x, hx, rfl⟩ | ⟨r, hr, m, hb⟩)
  ·exact ((d.own x (List.mem_append_left _ hx)).1.lt (blk_at0.2 rfl)).2
  ·exact (d.res r (List.mem_append_left _ hr)).2.2.1 b hb
 have wD2 : ∀ x ∈ D2, ¬ wpart D1 R1 x.1 := by
  rintro x hx (⟨y, hy, e⟩ | ⟨r, hr, m, hb⟩)
  ·exact nd3 _ (List.mem_map.2 ⟨y, hy, rfl⟩) _ (List.mem_map.2 ⟨x, hx, rfl⟩) e
  ·exact (d.res r (List.mem_append_left _ hr)).2.2.2.2 x (List.mem_append_right _ hx) hb
 have wR2 : ∀ s ∈ R2, ∀ b, s.S b → ¬ wpart D1 R1 b := by
  rintro s hs b hb (⟨y, hy, rfl⟩ | ⟨r, hr, m, hb'⟩)
  ·exact (d.res s (List.mem_append_right _ hs)).2.2.2.2 y (List.mem_append_left _ hy) hb
  ·exact p3 r hr s hs (by rw [m]; rfl) b hb' hb
 have ltD2 : ∀ x ∈ D2, x.1 < h.length := fun x hx => ((d.own x (List.mem_append_right _ hx)).1.lt (blk_at0.2 rfl)).2
 have ltR2 : ∀ s ∈ R2, ∀ b, s.S b → b < h.length := fun s hs => (d.res s (List.mem_append_right _ hs)).2.2.1
 have nn := d'.kb.1
 refine ⟨d'.ge, KB.trans d.kb d'.kb (fun _ _ h => h) (fun i hi hw => (wW i hw).resolve_right (by omega)), fun x hx => ?_, ?_, fun r hr => ?_, ?_⟩
 ·rcases List.mem_append.1 hx with hx | hx
  ·obtain ⟨o, hw⟩ := d'.own x hx
   exact ⟨o, hw.elim (wW _) fun h => .inr (by omega)⟩
  ·obtain ⟨o, hw⟩ := d.own x (List.mem_append_right _ hx)
   exact ⟨o.keep d'.kb fun b hb hu => wD2 x hx ((blk_at0.1 hb) ▸ hu), hw⟩
 ·rw [List.map_append, List.nodup_append]
  refine ⟨d'.nd, nd2, fun a ha b hb e => ?_⟩
  obtain ⟨x, hx, rfl⟩ := List.mem_map.1 ha
  obtain ⟨y, hy, rfl⟩ := List.mem_map.1 hb
  rcases (d'.own x hx).2 with hw | hw
  ·exact wD2 y hy (e ▸ hw)
  ·have := ltD2 y hy; omega
 ·rcases List.mem_append.1 hr with hr | hr
  ·obtain ⟨r1, r2, r3, r4, r5⟩ := d'.res r hr
   refine ⟨r1, r2, r3, fun m b hb => (r4 m b hb).elim (wW b) fun h => .inr (by omega), fun x hx hb => ?_⟩
   rcases List.mem_append.1 hx with hx | hx
   ·exact r5 x hx hb
   ·cases hm : r.mu with
    | true =>
     rcases r4 hm _ hb with hw | hw
     ·exact wD2 x hx hw
     ·have := ltD2 x hx; omega
    | false =>
     obtain ⟨r0, hr0, _, e⟩ := him r hr hm
     rw [← e] at hb
     exact (d.res r0 (List.mem_append_left _ hr0)).2.2.2.2 x (List.mem_append_right _ hx) hb
  ·obtain ⟨r1, r2, r3, r4, r5⟩ := d.res r (List.mem_append_right _ hr)
   refine ⟨r2 _ _ _ d'.kb (wR2 r hr) r1, r2, fun b hb => Nat.lt_of_lt_of_le (r3 b hb) nn, r4, fun x hx hb => ?_⟩
   rcases List.mem_append.1 hx with hx | hx
   ·rcases (d'.own x hx).2 with hw | hw
    ·exact wR2 r hr _ hb hw
    ·have := r3 _ hb; omega
   ·exact r5 x (List.mem_append_right _ hx) hb
 ·rw [List.pairwise_append]
  refine ⟨d'.dj, p2, fun r hr s hs e b h1 h2 => ?_⟩
  cases hm : r.mu with
  | true =>
   rcases (d'.res r hr).2.2.2.1 hm b h1 with hw | hw
   ·exact wR2 s hs b h2 hw
   ·have := ltR2 s hs b h2; omega
  | false =>
   obtain ⟨r0, hr0, _, e0⟩ := him r hr hm
   rw [hm, Bool.false_or] at e
   rw [← e0] at h1
   exact p3 r0 hr0 s hs (by rw [e]; simp) b h1 h2
theorem app1O {t w bytes i nb n : Nat} {S : Fp} {a : Option Addr} {olds cs : List Value} (d : Hs base W h0 h D R) (ei : R[i]? = some ⟨S, true, fun x => Own base t x a olds⟩) (hS : ∀ b, blk a b → S b) (m : (nb, t, cs) ∈ D) (hc : cs.length = w) (hw : 0 < w) (hn : olds.length = n * w) (hlf : cs.all leaf = true) (h1 : (n + 1) * bytes ≤ 140737488355328) (h2 : n + 1 ≤ 9223372036854775807) :
  ∃ a' h', Am.app base h t w bytes a n (rawAt h (at0 nb) (1 * w)) 1 = some (.slice a' (n + 1) (n + 1), h') ∧ Hs base W h0 h' D (R.set i ⟨blk a', true, fun x => Own base t x a' (olds ++ cs)⟩) ∧ (∀ b, blk a' b → b = h.length) ∧ KB S h h' ∧ h.length < h'.length := by
 have hraw : rawAt h (at0 nb) (1 * w) = some cs := by
  have := (d.ol m).sl.raw hlf
  rw [hc] at this
  simpa using this
 obtain ⟨a', h', e, o, k, q⟩ := Own.app (x := d.rs ei) (bytes := bytes) (m := 1) hn hw hraw d.ge h1 h2 (by omega)
 have q : ∀ b, blk a' b → b = h.length := q.resolve_left fun h => by omega
 have hne : cs ≠ [] := by intro e; subst e; simp at hc; omega
 have hlt : h.length < h'.length := by
  have o' := o
  rcases o' with ⟨_, e⟩ | ⟨ad, kk, e, _⟩
  ·exact absurd (List.append_eq_nil_iff.1 e).2 hne
  ·have hb : blk a' ad.block := ⟨ad, e, rfl⟩
   have := q _ hb
   have := (o.lt hb).2
   omega
 have k : KB S h h' := k.mono fun b _ hb => hS b hb
 exact ⟨a', h', e, d.upd (Upd.at ei) rfl rfl k (fun b hb => .inl hb) o (fun U y y' ky hs x => x.keep ky hs) (fun b hb => .inr ⟨by have := q b hb; omega, (o.lt hb).2⟩), q, k, hlt⟩
end Hs
section
variable {α : Type} {w : Nat} {P : Fp → AH → α → List Value → Prop}
end
end Go.Proofs.Ytjmkbglnjklbcaa.Am
set_option linter.unusedSimpArgs false
set_option linter.unusedVariables false
namespace Go.Proofs.Ytjmkbglnjklbcaa.Am
open Go Go.RowKit
end Go.Proofs.Ytjmkbglnjklbcaa.Am
set_option linter.unusedSimpArgs false
set_option linter.unusedVariables false
namespace Go.Proofs.Ytjmkbglnjklbcaa.Am
open Go Go.RowKit
end Go.Proofs.Ytjmkbglnjklbcaa.Am
set_option linter.unusedSimpArgs false
set_option linter.unusedVariables false
namespace Go.Proofs.Ytjmkbglnjklbcaa.Am
open Go Go.RowKit
def a0 : Ac := ⟨0, 0, [], [], []⟩
end Go.Proofs.Ytjmkbglnjklbcaa.Am
set_option linter.unusedSimpArgs false
set_option linter.unusedVariables false
namespace Go.Proofs.Ytjmkbglnjklbcaa.Am
open Go Go.RowKit
end Go.Proofs.Ytjmkbglnjklbcaa.Am
set_option linter.unusedSimpArgs false
set_option linter.unusedVariables false
namespace Go.Proofs.Ytjmkbglnjklbcaa.Am
open Go Go.RowKit
end Go.Proofs.Ytjmkbglnjklbcaa.Am
set_option linter.unusedSimpArgs false
set_option linter.unusedVariables false
namespace Go.Proofs.Ytjmkbglnjklbcaa.Am
open Go Go.RowKit
end Go.Proofs.Ytjmkbglnjklbcaa.Am
set_option linter.unusedSimpArgs false
set_option linter.unusedVariables false
namespace Go.Proofs.Ytjmkbglnjklbcaa.Am
open Go Go.RowKit
end Go.Proofs.Ytjmkbglnjklbcaa.Am
set_option linter.unusedSimpArgs false
set_option linter.unusedVariables false
namespace Go.Proofs.Ytjmkbglnjklbcaa.Am
open Go Go.RowKit
abbrev tm0 : Tm := .mk 1 0 ⟨#[]⟩ []
end Go.Proofs.Ytjmkbglnjklbcaa.Am
set_option linter.unusedSimpArgs false
set_option linter.unusedVariables false
namespace Go.Proofs.Ytjmkbglnjklbcaa.Am
open Go Go.RowKit
end Go.Proofs.Ytjmkbglnjklbcaa.Am
set_option linter.unusedSimpArgs false
set_option linter.unusedVariables false
namespace Go.Proofs.Ytjmkbglnjklbcaa.Am
open Go Go.RowKit
end Go.Proofs.Ytjmkbglnjklbcaa.Am
set_option linter.unusedSimpArgs false
set_option linter.unusedVariables false
namespace Go.Proofs.Ytjmkbglnjklbcaa.Am
open Go Go.RowKit
end Go.Proofs.Ytjmkbglnjklbcaa.Am
set_option linter.unusedSimpArgs false
set_option linter.unusedVariables false
namespace Go.Proofs.Ytjmkbglnjklbcaa.Am
open Go Go.RowKit
end Go.Proofs.Ytjmkbglnjklbcaa.Am
set_option linter.unusedSimpArgs false
set_option linter.unusedVariables false
namespace Go.Proofs.Ytjmkbglnjklbcaa.Am
open Go Go.RowKit
theorem W.s6 {β : Type} {Q : β → Prop} {h : AH} {p : Nat → Prop} {g : Nat} {l : List Sd} {a : Option Addr} (hs : SsR h p g l a) {i : Nat} (hi : i < l.length) {f : Int → Int → Int → Int → ByteArray → Option Addr × Nat → Option β} (w : ∀ k n s a2 m, TmR h p g l[i].t (termV k n s a2 m) → Wp (f l[i].kind l[i].pid k n s (a2, m)) Q) :
  Wp (a.bind fun ad => ((Am.cell h ad.block (ad.off + i * 6)).bind (getI .i64)).bind fun n1 => ((Am.cell h ad.block (ad.off + i * 6 + 1)).bind (getI .i64)).bind fun n2 => ((Am.cell h ad.block (ad.off + i * 6 + 1 + 1)).bind (getI .i64)).bind fun n3 => ((Am.cell h ad.block (ad.off + i * 6 + 1 + 1 + 1)).bind (getI .i64)).bind fun n4 => ((Am.cell h ad.block (ad.off + i * 6 + 1 + 1 + 1 + 1)).bind getStr).bind fun s5 => ((Am.cell h ad.block (ad.off + i * 6 + 1 + 1 + 1 + 1 + 1)).bind getS).bind fun l6 => f n1 n2 n3 n4 s5 l6) Q := by
 obtain ⟨ad, k, n, s, a2, m, rfl, _, g0, g1, g2, g3, g4, g5, hm⟩ := hs.get hi
 exact W.bs rfl (W.bI g0 (W.bI g1 (W.bI g2 (W.bI g3 (W.bT g4 (W.bS g5 (w k n s a2 m hm)))))))
end Go.Proofs.Ytjmkbglnjklbcaa.Am
set_option linter.unusedSimpArgs false
set_option linter.unusedVariables false
namespace Go.Proofs.Ytjmkbglnjklbcaa.Am
open Go Go.RowKit
end Go.Proofs.Ytjmkbglnjklbcaa.Am
set_option linter.unusedSimpArgs false
set_option linter.unusedVariables false
namespace Go.Proofs.Ytjmkbglnjklbcaa.Am
open Go Go.RowKit
end Go.Proofs.Ytjmkbglnjklbcaa.Am
set_option linter.unusedSimpArgs false
set_option linter.unusedVariables false
namespace Go.Proofs.Ytjmkbglnjklbcaa.Am
open Go Go.RowKit
end Go.Proofs.Ytjmkbglnjklbcaa.Am
set_option linter.unusedSimpArgs false
set_option linter.unusedVariables false
namespace Go.Proofs.Ytjmkbglnjklbcaa.Am
open Go Go.RowKit
end Go.Proofs.Ytjmkbglnjklbcaa.Am
set_option linter.unusedSimpArgs false
set_option linter.unusedVariables false
namespace Go.Proofs.Ytjmkbglnjklbcaa.Am
open Go Go.RowKit
def leadW (w : Int) : Bool := inB (tagW w) 4 6
def chW (G : Gn) (w : Int) : List Int :=
 if tagW w = 5 then [(gwd G (valW w)).getD 0, (gwd G (valW w + 1)).getD 0]
 else if tagW w = 4 then (List.range ((gwd G (valW w)).getD 0).toNat).map fun (i : Nat) => (gwd G (valW w + 1 + (i : Int))).getD 0
 else []
def Nd (G : Gn) (w : Int) : Prop := (tagW w = 6 → ∃ v, gwd G (valW w) = some v ∧ 0 ≤ v ∧ v ≤ 40) ∧ (tagW w = 4 → ∃ v, gwd G (valW w) = some v ∧ 0 ≤ v ∧ v ≤ 8 ∧ ∀ i : Nat, (i : Int) < v → (gwd G (valW w + 1 + (i : Int))).isSome = true) ∧ (tagW w = 5 → (gwd G (valW w)).isSome = true ∧ (gwd G (valW w + 1)).isSome = true)
def Fue (G : Gn) : Nat → Int → Prop
 | 0, _ => False
 | n + 1, w => Nd G w ∧ ∀ x ∈ chW G w, Fue G n x
theorem Fue.leaf {G : Gn} {w : Int} (h4 : tagW w ≠ 4) (h5 : tagW w ≠ 5) (h6 : tagW w = 6 → ∃ v, gwd G (valW w) = some v ∧ 0 ≤ v ∧ v ≤ 40) : Fue G 1 w := by
 refine ⟨⟨h6, fun h => absurd h h4, fun h => absurd h h5⟩, fun x hx => ?_⟩
 unfold chW at hx
 rw [if_neg h5, if_neg h4] at hx
 cases hx
theorem Nd.at_ {G : Gn} (hG : G.Ok) {w : Int} (h : Nd G w) (hl : leadW w = true) : 0 ≤ valW w ∧ valW w < 1148576 ∧ (valW w < 100000 ∨ valW w - 100000 < G.young.length) := by
 have hs : (gwd G (valW w)).isSome = true := by
  have : tagW w = 4 ∨ tagW w = 5 ∨ tagW w = 6 := by
   unfold leadW inB at hl
   simp only [Bool.and_eq_true, decide_eq_true_eq] at hl
   omega
  rcases this with h4 | h4 | h4
  ·obtain ⟨v, e, _⟩ := h.2.1 h4; rw [e]; rfl
  ·exact (h.2.2 h4).1
  ·obtain ⟨v, e, _⟩ := h.1 h4; rw [e]; rfl
 obtain ⟨v, e⟩ := Option.isSome_iff_exists.1 hs
 have g := gwd_ok hG e
 refine ⟨g.2.1, g.2.2, ?_⟩
 unfold gwd at e
 split at e
 ·have := (ati_ok e).2; omega
 ·omega
end Go.Proofs.Ytjmkbglnjklbcaa.Am
set_option linter.unusedSimpArgs false
set_option linter.unusedVariables false
namespace Go.Proofs.Ytjmkbglnjklbcaa.Am
open Go Go.RowKit
end Go.Proofs.Ytjmkbglnjklbcaa.Am
set_option linter.unusedSimpArgs false
set_option linter.unusedVariables false
namespace Go.Proofs.Ytjmkbglnjklbcaa.Am
open Go Go.RowKit
end Go.Proofs.Ytjmkbglnjklbcaa.Am
set_option linter.unusedSimpArgs false
set_option linter.unusedVariables false
namespace Go.Proofs.Ytjmkbglnjklbcaa.Am
open Go Go.RowKit
end Go.Proofs.Ytjmkbglnjklbcaa.Am
set_option linter.unusedSimpArgs false
set_option linter.unusedVariables false
namespace Go.Proofs.Ytjmkbglnjklbcaa.Am
open Go Go.RowKit
end Go.Proofs.Ytjmkbglnjklbcaa.Am
set_option linter.unusedSimpArgs false
set_option linter.unusedVariables false
namespace Go.Proofs.Ytjmkbglnjklbcaa.Am
open Go Go.RowKit
end Go.Proofs.Ytjmkbglnjklbcaa.Am
set_option linter.unusedSimpArgs false
set_option linter.unusedVariables false
namespace Go.Proofs.Ytjmkbglnjklbcaa.Am
open Go Go.RowKit
end Go.Proofs.Ytjmkbglnjklbcaa.Am
set_option linter.unusedSimpArgs false
set_option linter.unusedVariables false
namespace Go.Proofs.Ytjmkbglnjklbcaa.Am
open Go Go.RowKit
theorem p0 : (128 : Int) ^ 0 = 1 := by decide
theorem p1 : (128 : Int) ^ 1 = 128 := by decide
theorem p2 : (128 : Int) ^ 2 = 16384 := by decide
theorem p3 : (128 : Int) ^ 3 = 2097152 := by decide
end Go.Proofs.Ytjmkbglnjklbcaa.Am
set_option linter.unusedSimpArgs false
set_option linter.unusedVariables false
namespace Go.Proofs.Ytjmkbglnjklbcaa.Am
open Go Go.RowKit
end Go.Proofs.Ytjmkbglnjklbcaa.Am
set_option linter.unusedSimpArgs false
set_option linter.unusedVariables false
namespace Go.Proofs.Ytjmkbglnjklbcaa.Am
open Go Go.RowKit
end Go.Proofs.Ytjmkbglnjklbcaa.Am
set_option linter.unusedSimpArgs false
set_option linter.unusedVariables false
namespace Go.Proofs.Ytjmkbglnjklbcaa.Am
open Go Go.RowKit
end Go.Proofs.Ytjmkbglnjklbcaa.Am
set_option linter.unusedSimpArgs false
set_option linter.unusedVariables false
namespace Go.Proofs.Ytjmkbglnjklbcaa.Am
open Go Go.RowKit
theorem Hs.takeD {base : Nat} {W : Fp} {h0 h : AH} {D : Ds} {R : List Rs} (d : Hs base W h0 h D R) (n : Nat) : Hs base W h0 h (D.take n) R :=
 ⟨d.ge, d.kb, fun x hx => d.own x (List.mem_of_mem_take hx), by rw [List.map_take]; exact d.nd.sublist (List.take_sublist _ _), fun r hr => by
  obtain ⟨r1, r2, r3, r4, r5⟩ := d.res r hr
  exact ⟨r1, r2, r3, r4, fun x hx => r5 x (List.mem_of_mem_take hx)⟩, d.dj⟩
end Go.Proofs.Ytjmkbglnjklbcaa.Am
set_option linter.unusedSimpArgs false
set_option linter.unusedVariables false
namespace Go.Proofs.Ytjmkbglnjklbcaa.Am
open Go Go.RowKit
def RdA (base : Nat) (oa ya : Option Addr) (G : Gn) (aa : Option Addr) (ats : List ByteArray) (h : AH) : Prop :=
 TyOk base h oa 3 ∧ TyOk base h ya 3 ∧ TyOk base h aa 9 ∧ GnS h oa ya G ∧ Sl h aa (ats.map .string)
theorem RdA.keep {base : Nat} {oa ya : Option Addr} {G : Gn} {aa : Option Addr} {ats : List ByteArray} {U : Fp} {h h' : AH} (x : RdA base oa ya G aa ats h) (k : KB U h h') (hS : ∀ b, blk oa b ∨ blk ya b ∨ blk aa b → ¬ U b) : RdA base oa ya G aa ats h' := by
 obtain ⟨a, b, c, ⟨d, e⟩, f⟩ := x
 exact ⟨a.keep k fun i hi => hS i (.inl hi), b.keep k fun i hi => hS i (.inr (.inl hi)), c.keep k fun i hi => hS i (.inr (.inr hi)), ⟨d.keep k fun i hi => hS i (.inl hi), e.keep k fun i hi => hS i (.inr (.inl hi))⟩, f.keep k fun i hi => hS i (.inr (.inr hi))⟩
theorem RdA.keepN {base : Nat} {oa ya : Option Addr} {G : Gn} {aa : Option Addr} {ats : List ByteArray} {h h' : AH} (x : RdA base oa ya G aa ats h) (k : KB NoB h h') : RdA base oa ya G aa ats h' := x.keep k fun _ _ h => h
theorem TyOk.lt {base t : Nat} {h : AH} {a : Option Addr} (x : TyOk base h a t) : ∀ b, blk a b → b < h.length := fun b ⟨ad, e, e2⟩ => e2 ▸ (x ad e).1
theorem RdA.lt {base : Nat} {oa ya : Option Addr} {G : Gn} {aa : Option Addr} {ats : List ByteArray} {h : AH} (x : RdA base oa ya G aa ats h) : ∀ b, blk oa b ∨ blk ya b ∨ blk aa b → b < h.length := by
 obtain ⟨a, b, c, _⟩ := x
 rintro i (hi | hi | hi)
 ·exact a.lt i hi
 ·exact b.lt i hi
 ·exact c.lt i hi
theorem cell_lt {h : AH} {b o : Nat} {v : Value} (e : Am.cell h b o = some v) : b < h.length := by
 by_cases hc : b < h.length
 ·exact hc
 ·have : Am.cell h b o = none := by
   unfold Am.cell hget
   rw [List.getElem?_eq_none_iff.2 (by omega)]
   rfl
  rw [this] at e; cases e
theorem cell_keepU {U : Fp} {h h' : AH} {b o : Nat} {v : Value} (e : Am.cell h b o = some v) (k : KB U h h') (hb : ¬ U b) : Am.cell h' b o = some v := by
 have hlt := cell_lt e
 unfold Am.cell at e ⊢
 rw [k.2 _ hlt hb]
 exact e
end Go.Proofs.Ytjmkbglnjklbcaa.Am
set_option linter.unusedSimpArgs false
set_option linter.unusedVariables false
namespace Go.Proofs.Ytjmkbglnjklbcaa.Am
open Go Go.RowKit
def gwl (G : Gn) (p : Int) : List Int := if 100000 ≤ p then G.young else G.old
def gwp (p : Int) : Int := if 100000 ≤ p then p - 100000 else p
def gwB (G : Gn) (p n : Int) : Bool := inB (gwp p) 0 (gwl G p).length && inB n 0 ((gwl G p).length - gwp p)
def gws (G : Gn) (p n : Int) : List Int := if gwB G p n = true then ((gwl G p).drop (gwp p).toNat).take n.toNat else []
theorem gwB_iff {G : Gn} {p n : Int} : gwB G p n = true ↔ (0 ≤ gwp p ∧ gwp p ≤ (gwl G p).length) ∧ 0 ≤ n ∧ n ≤ (gwl G p).length - gwp p := by
 unfold gwB inB
 simp only [Bool.and_eq_true, decide_eq_true_eq]
def GnO (base : Nat) (h : AH) (oa ya : Option Addr) (G : Gn) : Prop := TyOk base h oa 3 ∧ TyOk base h ya 3 ∧ GnS h oa ya G
theorem GnO.keepN {base : Nat} {h h' : AH} {oa ya : Option Addr} {G : Gn} (x : GnO base h oa ya G) (k : KB NoB h h') : GnO base h' oa ya G := ⟨x.1.keepN k, x.2.1.keepN k, x.2.2.1.keepN k, x.2.2.2.keepN k⟩
theorem GnO.keep {base : Nat} {U : Fp} {h h' : AH} {oa ya : Option Addr} {G : Gn} (x : GnO base h oa ya G) (k : KB U h h') (hS : ∀ b, blk oa b ∨ blk ya b → ¬ U b) : GnO base h' oa ya G :=
 ⟨x.1.keep k fun i hi => hS i (.inl hi), x.2.1.keep k fun i hi => hS i (.inr hi), x.2.2.1.keep k fun i hi => hS i (.inl hi), x.2.2.2.keep k fun i hi => hS i (.inr hi)⟩
theorem GnO.lt {base : Nat} {h : AH} {oa ya : Option Addr} {G : Gn} (x : GnO base h oa ya G) : ∀ b, blk oa b ∨ blk ya b → b < h.length := fun b hb => hb.elim (x.1.lt b) (x.2.1.lt b)
def gwa (oa ya : Option Addr) (p : Int) : Option Addr := if 100000 ≤ p then ya else oa
theorem GnO.part {base : Nat} {h : AH} {oa ya : Option Addr} {G : Gn} (x : GnO base h oa ya G) (p : Int) : TyOk base h (gwa oa ya p) 3 ∧ Sl h (gwa oa ya p) (iv .i64 (gwl G p)) := by
 unfold gwa gwl
 split
 ·exact ⟨x.2.1, x.2.2.2⟩
 ·exact ⟨x.1, x.2.2.1⟩
theorem GnO.sl {base : Nat} {h : AH} {oa ya : Option Addr} {G : Gn} {p n : Int} (x : GnO base h oa ya G) (c : gwB G p n = true) : Sl h (shiftA (gwa oa ya p) (gwp p).toNat) (iv .i64 (gws G p n)) := by
 have c2 := gwB_iff.1 c
 have e2 : gws G p n = ((gwl G p).drop (gwp p).toNat).take n.toNat := by unfold gws; rw [if_pos c]
 rw [e2, iv, List.map_take, List.map_drop]
 exact (x.part p).2.part (by rw [iv_length]; omega)
theorem GnO.inp {base : Nat} {h : AH} {oa ya : Option Addr} {G : Gn} (x : GnO base h oa ya G) (hb : base ≤ h.length) : Hs base NoB h h [] [⟨fun b => b < h.length, false, fun y => GnO base y oa ya G⟩] :=
 (Hs.start hb).inp (fun b => b < h.length) (fun y => GnO base y oa ya G) x (fun U y y' k hS q => q.keep k fun i hi => hS i (x.lt i hi)) (fun b hb => hb) (fun x hx => nomatch hx) rfl
end Go.Proofs.Ytjmkbglnjklbcaa.Am
set_option linter.unusedSimpArgs false
set_option linter.unusedVariables false
namespace Go.Proofs.Ytjmkbglnjklbcaa.Am
open Go Go.RowKit
end Go.Proofs.Ytjmkbglnjklbcaa.Am
set_option linter.unusedSimpArgs false
set_option linter.unusedVariables false
namespace Go.Proofs.Ytjmkbglnjklbcaa.Am
open Go Go.RowKit
end Go.Proofs.Ytjmkbglnjklbcaa.Am
set_option linter.unusedSimpArgs false
set_option linter.unusedVariables false
namespace Go.Proofs.Ytjmkbglnjklbcaa.Am
open Go Go.RowKit
end Go.Proofs.Ytjmkbglnjklbcaa.Am
set_option linter.unusedSimpArgs false
set_option linter.unusedVariables false
namespace Go.Proofs.Ytjmkbglnjklbcaa.Am
open Go Go.RowKit
end Go.Proofs.Ytjmkbglnjklbcaa.Am
set_option linter.unusedSimpArgs false
set_option linter.unusedVariables false
namespace Go.Proofs.Ytjmkbglnjklbcaa.Am
open Go Go.RowKit
end Go.Proofs.Ytjmkbglnjklbcaa.Am
set_option linter.unusedSimpArgs false
set_option linter.unusedVariables false
namespace Go.Proofs.Ytjmkbglnjklbcaa.Am
open Go Go.RowKit
end Go.Proofs.Ytjmkbglnjklbcaa.Am
set_option linter.unusedSimpArgs false
set_option linter.unusedVariables false
namespace Go.Proofs.Ytjmkbglnjklbcaa.Am
open Go Go.RowKit
end Go.Proofs.Ytjmkbglnjklbcaa.Am
set_option linter.unusedSimpArgs false
set_option linter.unusedVariables false
namespace Go.Proofs.Ytjmkbglnjklbcaa.Am
open Go Go.RowKit
def GmB (base gb : Nat) (oa ya : Option Addr) (G : Gn) (h : AH) : Prop :=
 Am.cell h gb 0 = some (.slice oa G.old.length G.old.length) ∧ Am.cell h gb 1 = some (.slice ya G.young.length G.young.length) ∧ Am.cell h gb 2 = some (.int .i64 G.mark) ∧ GnO base h oa ya G
theorem GmB.keepN {base gb : Nat} {oa ya : Option Addr} {G : Gn} {h h' : AH} (x : GmB base gb oa ya G h) (k : KB NoB h h') : GmB base gb oa ya G h' :=
 ⟨cell_keepU x.1 k (fun h => h), cell_keepU x.2.1 k (fun h => h), cell_keepU x.2.2.1 k (fun h => h), x.2.2.2.keepN k⟩
end Go.Proofs.Ytjmkbglnjklbcaa.Am
set_option linter.unusedSimpArgs false
set_option linter.unusedVariables false
namespace Go.Proofs.Ytjmkbglnjklbcaa.Am
open Go Go.RowKit
end Go.Proofs.Ytjmkbglnjklbcaa.Am
set_option linter.unusedSimpArgs false
set_option linter.unusedVariables false
namespace Go.Proofs.Ytjmkbglnjklbcaa.Am
open Go Go.RowKit
end Go.Proofs.Ytjmkbglnjklbcaa.Am
set_option linter.unusedSimpArgs false
set_option linter.unusedVariables false
namespace Go.Proofs.Ytjmkbglnjklbcaa.Am
open Go Go.RowKit
def stV (l : List ByteArray) : List Value := l.map .string
end Go.Proofs.Ytjmkbglnjklbcaa.Am
set_option linter.unusedSimpArgs false
set_option linter.unusedVariables false
namespace Go.Proofs.Ytjmkbglnjklbcaa.Am
open Go Go.RowKit
end Go.Proofs.Ytjmkbglnjklbcaa.Am
set_option linter.unusedSimpArgs false
set_option linter.unusedVariables false
namespace Go.Proofs.Ytjmkbglnjklbcaa.Am
open Go Go.RowKit
end Go.Proofs.Ytjmkbglnjklbcaa.Am
set_option linter.unusedSimpArgs false
set_option linter.unusedVariables false
namespace Go.Proofs.Ytjmkbglnjklbcaa.Am
open Go Go.RowKit
def AtO (base : Nat) (a : Option Addr) (ats : List ByteArray) (y : AH) : Prop := TyOk base y a 9 ∧ Sl y a (stV ats)
def InO (base : Nat) (a : Option Addr) (l : List Int) (y : AH) : Prop := TyOk base y a 3 ∧ Sl y a (iv .i64 l)
theorem AtO.keep {base : Nat} {a : Option Addr} {ats : List ByteArray} (U : Fp) (h h' : AH) (k : KB U h h') (hS : ∀ b, blk a b → ¬ U b) (x : AtO base a ats h) : AtO base a ats h' := ⟨x.1.keep k hS, x.2.keep k hS⟩
theorem InO.keep {base : Nat} {a : Option Addr} {l : List Int} (U : Fp) (h h' : AH) (k : KB U h h') (hS : ∀ b, blk a b → ¬ U b) (x : InO base a l h) : InO base a l h' := ⟨x.1.keep k hS, x.2.keep k hS⟩
end Go.Proofs.Ytjmkbglnjklbcaa.Am
set_option linter.unusedSimpArgs false
set_option linter.unusedVariables false
namespace Go.Proofs.Ytjmkbglnjklbcaa.Am
open Go Go.RowKit
structure Cx where
 pid : Int
 pc : Int
 regs : List Int
 box : List Int
 links : List Int
 home : Int
def CxS (h : AH) (r b l : Option Addr) (C : Cx) : Prop := Sl h r (iv .i64 C.regs) ∧ Sl h b (iv .i64 C.box) ∧ Sl h l (iv .i64 C.links)
def CxO (base : Nat) (r b l : Option Addr) (C : Cx) (h : AH) : Prop := InO base r C.regs h ∧ InO base b C.box h ∧ InO base l C.links h
theorem CxS.keepN {h h' : AH} {r b l : Option Addr} {C : Cx} (x : CxS h r b l C) (k : KB NoB h h') : CxS h' r b l C := ⟨x.1.keepN k, x.2.1.keepN k, x.2.2.keepN k⟩
theorem CxO.keep {base : Nat} {r b l : Option Addr} {C : Cx} (U : Fp) (h h' : AH) (k : KB U h h') (hS : ∀ i, blk r i ∨ blk b i ∨ blk l i → ¬ U i) (x : CxO base r b l C h) : CxO base r b l C h' :=
 ⟨x.1.keep U _ _ k fun i hi => hS i (.inl hi), x.2.1.keep U _ _ k fun i hi => hS i (.inr (.inl hi)), x.2.2.keep U _ _ k fun i hi => hS i (.inr (.inr hi))⟩
theorem Hs.appN {base t sz bytes i n m : Nat} {V S : Fp} {h0 h : AH} {D : Ds} {R : List Rs} {a : Option Addr} {olds new : List Value} {src : Option (List Value)} (d : Hs base V h0 h D R) (ei : R[i]? = some ⟨S, true, fun x => Own base t x a olds⟩) (hS : ∀ b, blk a b → S b) (hn : olds.length = n * sz) (hsz : 0 < sz) (hs : src = some new) (h1 : (n + m) * bytes ≤ 140737488355328) (h2 : n + m ≤ 9223372036854775807) (hm : new.length = m * sz) :
  ∃ a' h', Am.app base h t sz bytes a n src m = some (.slice a' (n + m) (n + m), h') ∧ Hs base V h0 h' D (R.set i ⟨blk a', true, fun y => Own base t y a' (olds ++ new)⟩) ∧ KB (blk a) h h' := by
 obtain ⟨a', h', e, o, k, q⟩ := Own.app (x := d.rs ei) (bytes := bytes) (m := m) hn hsz hs d.ge h1 h2 hm
 refine ⟨a', h', e, d.upd (Upd.at ei) rfl rfl k (fun b hb => .inl (hS b hb)) o (fun U y y' ky hs x => x.keep ky hs) (fun b hb => ?_), k⟩
 rcases q with ⟨_, e, _⟩ | q
 ·have hb : blk a' b := hb
  rw [e] at hb
  exact .inl (hS b hb)
 ·have e := q b hb
  have := (o.lt hb).2
  exact .inr ⟨by omega, this⟩
end Go.Proofs.Ytjmkbglnjklbcaa.Am
set_option linter.unusedSimpArgs false
set_option linter.unusedVariables false
namespace Go.Proofs.Ytjmkbglnjklbcaa.Am
open Go Go.RowKit
end Go.Proofs.Ytjmkbglnjklbcaa.Am
set_option linter.unusedSimpArgs false
set_option linter.unusedVariables false
namespace Go.Proofs.Ytjmkbglnjklbcaa.Am
open Go Go.RowKit
def Wf (f : Nat) (t : Tm) : Prop := ∃ d x, x ≤ 100 ∧ 0 ≤ lk f t d x
theorem lkS_mem2 {g : Tm → Int → Int → Int} (hg : ∀ t d x, 0 ≤ x → -1 ≤ g t d x ∧ g t d x ≤ x) : ∀ (l : List Tm) (d x : Int), x ≤ 100 → 0 ≤ lkS g l d x → ∀ t ∈ l, ∃ d' x', x' ≤ 100 ∧ 0 ≤ g t d' x'
 | [], d, x, _, _, t, ht => by cases ht
 | u :: r, d, x, hx, h, t, ht => by
  rw [lkS] at h
  by_cases h0 : x ≥ 0
  ·rw [if_pos h0] at h
   have hu := hg u d x h0
   rcases List.mem_cons.1 ht with rfl | ht
   ·refine ⟨d, x, hx, ?_⟩
    by_cases hc : 0 ≤ g t d x
    ·exact hc
    ·rw [lkS_neg _ _ _ _ (by omega)] at h; omega
   ·exact lkS_mem2 hg r _ _ (by omega) h t ht
  ·rw [if_neg h0] at h; omega
theorem Wf.open {f : Nat} {k n : Int} {s : ByteArray} {l : List Tm} (h : Wf (f + 1) (.mk k n s l)) : shB k n s l.length = true ∧ ∀ t ∈ l, Wf f t := by
 obtain ⟨d, x, hx, h⟩ := h
 rw [lk] at h
 split at h
 ·omega
 ·rename_i hn
  refine ⟨?_, fun t ht => ?_⟩
  ·cases hs : shB k n s l.length with
   | true => rfl
   | false => exact absurd (.inr (.inr hs)) hn
  ·obtain ⟨d', x', a, b⟩ := lkS_mem2 (lk_le f) l _ _ (by omega) h t ht
   exact ⟨d', x', a, b⟩
theorem Wf.of {f : Nat} {t : Tm} (h : tOk f t = true) : Wf f t := ⟨6, 100, by omega, of_decide_eq_true h⟩
end Go.Proofs.Ytjmkbglnjklbcaa.Am
set_option linter.unusedSimpArgs false
set_option linter.unusedVariables false
namespace Go.Proofs.Ytjmkbglnjklbcaa.Am
open Go Go.RowKit
abbrev rW (base : Nat) (a : Option Addr) (l : List Int) : Rs := ⟨blk a, true, fun y => Own base 3 y a (iv .i64 l)⟩
theorem setAt_ivs {l : List Int} {j : Nat} {v : Int} (hj : j < l.length) : setAt (iv .i64 l) j [.int .i64 v] = iv .i64 (l.set j v) := by
 unfold setAt iv
 rw [List.set_eq_take_append_cons_drop, if_pos hj]
 simp
theorem rep_ivs : ∀ n, rep [Value.int .i64 0] n = iv .i64 (List.replicate n 0)
 | 0 => rfl
 | n + 1 => by simp only [rep, rep_ivs n]; rfl
theorem Hs.setW {base i j : Nat} {V : Fp} {h0 h : AH} {D : Ds} {R : List Rs} {a : Option Addr} {l : List Int} {v : Int} (d : Hs base V h0 h D R) (ei : R[i]? = some (rW base a l)) (hj : j < l.length) :
  ∃ ad h', a = some ad ∧ Am.wr base h ad.block (ad.off + j) [.int .i64 v] = some h' ∧ Hs base V h0 h' D (R.set i (rW base a (l.set j v))) ∧ KB (blk a) h h' := by
 obtain ⟨ad, h', ea, ew, ow, kw, _⟩ := Own.wrA (d.rs ei : Own base 3 h a (iv .i64 l)) (i := j) (new := [.int .i64 v]) (by simp; omega) (by simp)
 rw [setAt_ivs hj] at ow
 exact ⟨ad, h', ea, ew, d.upd (r := rW base a l) (r' := rW base a (l.set j v)) (Upd.at ei) rfl rfl kw (fun b hb => .inl hb) ow (fun U y y' k hs z => z.keep k hs) (fun b hb => .inl hb), kw⟩
end Go.Proofs.Ytjmkbglnjklbcaa.Am
set_option linter.unusedSimpArgs false
set_option linter.unusedVariables false
namespace Go.Proofs.Ytjmkbglnjklbcaa.Am
open Go Go.RowKit
end Go.Proofs.Ytjmkbglnjklbcaa.Am
set_option linter.unusedSimpArgs false
set_option linter.unusedVariables false
namespace Go.Proofs.Ytjmkbglnjklbcaa.Am
open Go Go.RowKit
end Go.Proofs.Ytjmkbglnjklbcaa.Am
set_option linter.unusedSimpArgs false
set_option linter.unusedVariables false
namespace Go.Proofs.Ytjmkbglnjklbcaa.Am
open Go Go.RowKit
theorem Hs.pk5 {base : Nat} {V : Fp} {h0 h : AH} {D : Ds} {x y z c e : Rs} (d : Hs base V h0 h D [x, y, z, c, e]) : Hs base V h0 h D [x, y, e] := by
 have d := (d.frontR (Del.at (i := 4) rfl)).takeR 3
 have d := d.frontR (Del.at (i := 1) rfl)
 have d := d.frontR (Del.at (i := 2) rfl)
 exact d.frontR (Del.at (i := 1) rfl)
end Go.Proofs.Ytjmkbglnjklbcaa.Am
set_option linter.unusedSimpArgs false
set_option linter.unusedVariables false
namespace Go.Proofs.Ytjmkbglnjklbcaa.Am
open Go Go.RowKit
theorem Hs.app1W {base i nb n : Nat} {V : Fp} {h0 h : AH} {D : Ds} {R : List Rs} {a : Option Addr} {l : List Int} {v : Int} (d : Hs base V h0 h ((nb, 3, [.int .i64 v]) :: D) R) (ei : R[i]? = some (rW base a l)) (hn : l.length = n) (hl : n + 1 ≤ 1000000) :
  ∃ a' h', Am.app base h 3 1 8 a n (rawAt h (at0 nb) (1 * 1)) 1 = some (.slice a' (n + 1) (n + 1), h') ∧ Hs base V h0 h' ((nb, 3, [.int .i64 v]) :: D) (R.set i (rW base a' (l ++ [v]))) := by
 obtain ⟨a5, h5, e5, d, q5, k5, _⟩ := d.app1O (w := 1) (i := i) (n := n) (bytes := 8) ei (fun b hb => hb) (.head _) rfl (by decide) (by simp [hn]) rfl (by omega) (by omega)
 refine ⟨a5, h5, e5, ?_⟩
 have e : iv .i64 l ++ [Value.int .i64 v] = iv .i64 (l ++ [v]) := by simp [iv]
 rw [e] at d
 exact d
end Go.Proofs.Ytjmkbglnjklbcaa.Am
set_option linter.unusedSimpArgs false
set_option linter.unusedVariables false
namespace Go.Proofs.Ytjmkbglnjklbcaa.Am
open Go Go.RowKit
end Go.Proofs.Ytjmkbglnjklbcaa.Am
set_option linter.unusedSimpArgs false
set_option linter.unusedVariables false
namespace Go.Proofs.Ytjmkbglnjklbcaa.Am
open Go Go.RowKit
end Go.Proofs.Ytjmkbglnjklbcaa.Am
set_option linter.unusedSimpArgs false
set_option linter.unusedVariables false
namespace Go.Proofs.Ytjmkbglnjklbcaa.Am
open Go Go.RowKit
theorem Hs.copyG {base b t bytes m : Nat} {V : Fp} {h0 h : AH} {D : Ds} {R : List Rs} {vs : List Value} {src : Option (List Value)} (d : Hs base V h0 h ((b, t, []) :: D) R) (hs : src = some vs) (hm : vs.length = m) (h1 : m ≤ 1048576 * 4) (hby : bytes ≤ 16) :
  ∃ a' h', Am.app base h t 1 bytes (at0 b) 0 src m = some (.slice a' m m, h') ∧ Hs base V h0 h' D (R ++ [⟨blk a', true, fun y => Own base t y a' vs⟩]) := by
 have d := d.unbox (Del.at (i := 0) rfl)
 simp only [n5, n6] at d
 have hbm : (0 + m) * bytes ≤ 140737488355328 := by
  have : (0 + m) * bytes ≤ (1048576 * 4) * 16 := Nat.mul_le_mul (by omega) hby
  omega
 obtain ⟨a2, h2, e2, d, k2⟩ := d.appN (i := R.length) (n := 0) (m := m) (sz := 1) (bytes := bytes) (a := at0 b) (t := t) (olds := []) (S := (· = b)) (by simp) (fun b hb => (blk_at0.1 hb)) (by simp) (by decide) hs hbm (by omega) (by omega)
 simp only [List.nil_append, Nat.zero_add] at e2 d
 refine ⟨a2, h2, e2, ?_⟩
 have e : ∀ (x y : Rs), (R ++ [x]).set R.length y = R ++ [y] := by intro x y; simp
 rw [e] at d
 exact d
theorem raw_ivs {h : AH} {a : Option Addr} {l : List Int} (x : Sl h a (iv .i64 l)) : rawAt h a (l.length * 1) = some (iv .i64 l) := by
 have := x.raw (iv_leaf _ _)
 simpa using this
end Go.Proofs.Ytjmkbglnjklbcaa.Am
set_option linter.unusedSimpArgs false
set_option linter.unusedVariables false
namespace Go.Proofs.Ytjmkbglnjklbcaa.Am
open Go Go.RowKit
end Go.Proofs.Ytjmkbglnjklbcaa.Am
set_option linter.unusedSimpArgs false
set_option linter.unusedVariables false
namespace Go.Proofs.Ytjmkbglnjklbcaa.Am
open Go Go.RowKit
def spl (o : List Int) (p : Nat) (s : List Int) : List Int := o.take p ++ (s ++ o.drop (p + s.length))
theorem spl_len {o s : List Int} {p : Nat} (h : p + s.length ≤ o.length) : (spl o p s).length = o.length := by
 unfold spl; simp only [List.length_append, List.length_take, List.length_drop]; omega
theorem spl_get {o s : List Int} {p : Nat} (h : p + s.length ≤ o.length) (j : Nat) : (spl o p s)[j]? = if j < p then o[j]? else if j < p + s.length then s[j - p]? else o[j]? := by
 unfold spl
 have hp : (o.take p).length = p := by rw [List.length_take]; omega
 by_cases c1 : j < p
 ·rw [if_pos c1, List.getElem?_append_left (by omega), List.getElem?_take_of_lt c1]
 ·rw [if_neg c1, List.getElem?_append_right (by omega), hp]
  by_cases c2 : j < p + s.length
  ·rw [if_pos c2, List.getElem?_append_left (by omega)]
  ·rw [if_neg c2, List.getElem?_append_right (by omega), List.getElem?_drop]
   congr 1
   omega
theorem spl_one {o : List Int} {i : Nat} {v : Int} (h : i < o.length) : o.set i v = spl o i [v] := by
 unfold spl
 rw [List.set_eq_take_append_cons_drop, if_pos h]
 rfl
theorem spl_adj {o s t : List Int} {p : Nat} (h : p + s.length + t.length ≤ o.length) : spl (spl o p s) (p + s.length) t = spl o p (s ++ t) := by
 apply List.ext_getElem?
 intro j
 rw [spl_get (by rw [spl_len (by omega)]; omega), spl_get (by omega), spl_get (by rw [List.length_append]; omega), List.length_append]
 by_cases c1 : j < p
 ·rw [if_pos (by omega), if_pos c1, if_pos c1]
 ·by_cases c2 : j < p + s.length
  ·rw [if_pos c2, if_neg c1, if_pos c2, if_neg c1, if_pos (by omega), List.getElem?_append_left (by omega)]
  ·rw [if_neg c2]
   by_cases c3 : j < p + s.length + t.length
   ·rw [if_pos c3, if_neg c1, if_pos (by omega), List.getElem?_append_right (by omega)]
    congr 1
    omega
   ·rw [if_neg c3, if_neg c1, if_neg c2, if_neg c1, if_neg (by omega)]
theorem spl_com {o s t : List Int} {p q : Nat} (h1 : p + s.length ≤ q) (h2 : q + t.length ≤ o.length) : spl (spl o p s) q t = spl (spl o q t) p s := by
 apply List.ext_getElem?
 intro j
 rw [spl_get (by rw [spl_len (by omega)]; omega), spl_get (by omega), spl_get (by rw [spl_len (by omega)]; omega), spl_get (by omega)]
 by_cases c1 : j < p
 ·rw [if_pos (by omega), if_pos c1, if_pos c1, if_pos (by omega)]
 ·by_cases c2 : j < p + s.length
  ·rw [if_pos (by omega), if_neg c1, if_pos c2, if_neg c1, if_pos c2]
  ·by_cases c3 : j < q
   ·rw [if_pos c3, if_neg c1, if_neg c2, if_neg c1, if_neg c2, if_pos c3]
   ·by_cases c4 : j < q + t.length
    ·rw [if_neg c3, if_pos c4, if_neg c1, if_neg c2, if_neg c3, if_pos c4]
    ·rw [if_neg c3, if_neg c4, if_neg c1, if_neg c2, if_neg c1, if_neg c2, if_neg c3, if_neg c4]
def Has (W : List Int) (p : Nat) (s : List Int) : Prop := ∀ k (hk : k < s.length), W[p + k]? = some s[k]
theorem Has.app {W s t : List Int} {p : Nat} (h : Has W p (s ++ t)) : Has W p s ∧ Has W (p + s.length) t := by
 refine ⟨fun k hk => ?_, fun k hk => ?_⟩
 ·rw [h k (by rw [List.length_append]; omega), List.getElem_append_left hk]
 ·rw [Nat.add_assoc, h (s.length + k) (by rw [List.length_append]; omega), List.getElem_append_right (by omega)]
  simp
theorem Has.cons {W s : List Int} {x : Int} {p : Nat} (h : Has W p (x :: s)) : W[p]? = some x ∧ Has W (p + 1) s := by
 obtain ⟨a, b⟩ := Has.app (s := [x]) (t := s) h
 exact ⟨a 0 (by simp), b⟩
theorem Has.lt {W s : List Int} {p : Nat} (h : Has W p s) (hs : s ≠ []) : p + s.length ≤ W.length := by
 have hp : 0 < s.length := List.length_pos_iff.2 hs
 have := h (s.length - 1) (by omega)
 have := (List.getElem?_eq_some_iff.1 this).1
 omega
end Go.Proofs.Ytjmkbglnjklbcaa.Am
set_option linter.unusedSimpArgs false
set_option linter.unusedVariables false
namespace Go.Proofs.Ytjmkbglnjklbcaa.Am
open Go Go.RowKit
theorem and255 (m : Int) : 0 ≤ Go.bits .and .i64 m (255 : Int) ∧ Go.bits .and .i64 m (255 : Int) ≤ 255 := by
 have h : ∀ x : BitVec 64, (x &&& BitVec.ofInt 64 (255 : Int)).toNat ≤ 255 := fun x => by
  rw [BitVec.toNat_and]
  exact Nat.le_trans Nat.and_le_right (by decide)
 have h1 := h (BitVec.ofInt 64 m)
 have e : Go.bits .and .i64 m (255 : Int) = IntKind.wrap .i64 ((BitVec.ofInt 64 m &&& BitVec.ofInt 64 (255 : Int)).toNat : Int) := rfl
 rw [e, w64i (by omega) (by omega)]
 omega
def CurR (base cb : Nat) (h : AH) : Prop := ∃ (a : Option Addr) (zs : List Int) (i hh : Int), Own base 181 h (at0 cb) [.slice a zs.length zs.length, .int .i64 i, .int .i64 hh] ∧ Sl h a (iv .u8 zs) ∧ (zs = [] ∨ ∀ b, blk a b → b < base) ∧ zs.length ≤ 9223372036854775806 ∧ 0 ≤ i
theorem CurR.keep {base cb : Nat} {U : Nat → Prop} {h h' : AH} (x : CurR base cb h) (k : KB U h h') (hU : ∀ b, U b → base ≤ b ∧ b ≠ cb) : CurR base cb h' := by
 obtain ⟨a, zs, i, hh, o, s, hz, hl, hi⟩ := x
 refine ⟨a, zs, i, hh, o.keep k fun b hb hu => by rw [blk_at0] at hb; exact (hU b hu).2 hb, ?_, hz, hl, hi⟩
 rcases hz with e | hz
 ·subst e; exact .inl rfl
 ·exact s.keep k fun b hb hu => by have := hz b hb; have := (hU b hu).1; omega
theorem CurR.keepN {base cb : Nat} {h h' : AH} (x : CurR base cb h) (k : KB NoB h h') : CurR base cb h' := x.keep k fun _ h => h.elim
theorem CurR.lt {base cb : Nat} {h : AH} (x : CurR base cb h) : base ≤ cb ∧ cb < h.length := by
 obtain ⟨a, zs, i, hh, o, _⟩ := x
 exact o.lt (blk_at0.2 rfl)
theorem l1Byte_run {base cb : Nat} {h : AH} (x : CurR base cb h) : ∃ z h', run (Et base) 193 [.pointer (at0 cb)] h = some (.int .i64 z, h') ∧ 0 ≤ z ∧ z ≤ 255 ∧ CurR base cb h' ∧ KB (· = cb) h h' ∧ h'.length = h.length := by
 have hlt := x.lt
 obtain ⟨a, zs, i, hh, o, s, hz, hl, hi⟩ := x
 obtain ⟨h4, e4, o4, k4, n4⟩ := o.wr0 (i := 2) (new := [.int .i64 (IntKind.wrap .i64 ((IntKind.wrap .i64 (hh * (6364136223846793005 : Int))) + (1442695040888963407 : Int)))]) (by simp) (by simp)
 generalize hg : IntKind.wrap .i64 ((IntKind.wrap .i64 (hh * (6364136223846793005 : Int))) + (1442695040888963407 : Int)) = hn at e4 o4
 have hset : setAt [.slice a zs.length zs.length, .int .i64 i, .int .i64 hh] 2 [.int .i64 hn] = [.slice a zs.length zs.length, .int .i64 i, Value.int .i64 hn] := rfl
 rw [hset] at o4
 have s4 : Sl h4 a (iv .u8 zs) := by
  rcases hz with e | hz
  ·subst e; exact .inl rfl
  ·exact s.keep k4 fun b hb hu => by have := hz b hb; omega
 by_cases c : i < (zs.length : Int)
 ·obtain ⟨ad, rfl, g⟩ := s4.int (i := i.toNat) (by omega)
  obtain ⟨h5, e5, o5, k5, n5⟩ := o4.wr0 (i := 1) (new := [.int .i64 (IntKind.wrap .i64 (i + 1))]) (by simp) (by simp)
  have hset : setAt [.slice (some ad) zs.length zs.length, .int .i64 i, .int .i64 hn] 1 [.int .i64 (IntKind.wrap .i64 (i + 1))] = [.slice (some ad) zs.length zs.length, .int .i64 (IntKind.wrap .i64 (i + 1)), Value.int .i64 hn] := rfl
  rw [hset] at o5
  have bz := and255 (IntKind.wrap .i64 ((Go.bits .and .i64 (Go.bits .xor .i64 (Int.fdiv hn (2 ^ min ((33 : Int)).toNat 64)) (Int.fdiv hn (2 ^ min ((47 : Int)).toNat 64))) (255 : Int)) + (IntKind.wrap .i64 zs[i.toNat])))
  refine ⟨_, h5, Am.r193 (bs rfl (bI (o.at0 (i := 2) rfl) (bs rfl ?_))), bz.1, bz.2, ⟨_, zs, IntKind.wrap .i64 (i + 1), hn, o5, ?_, hz, hl, by rw [w64i (by omega) (by omega)]; omega⟩, KB.trans k4 k5 (fun _ _ h => h) (fun _ _ h => h), by omega⟩
  ·rw [hg]
   refine bs e4 (bs rfl (bI (o4.at0 (i := 2) rfl) (bs rfl (bI (o4.at0 (i := 2) rfl) ?_))))
   refine bj (q := ([some (.int .i64 (Go.bits .and .i64 (IntKind.wrap .i64 ((Go.bits .and .i64 (Go.bits .xor .i64 (Int.fdiv hn (2 ^ min ((33 : Int)).toNat 64)) (Int.fdiv hn (2 ^ min ((47 : Int)).toNat 64))) (255 : Int)) + (IntKind.wrap .i64 zs[i.toNat]))) (255 : Int)))], h5)) ?_ (bI rfl rfl)
   refine bs rfl (bI (o4.at0 (i := 1) rfl) (bs rfl (bS (o4.at0 (i := 0) rfl) (ifT (decide_eq_true c) (bs rfl (bS (o4.at0 (i := 0) rfl) (bs rfl (bI (o4.at0 (i := 1) rfl) (ifT ⟨hi, c⟩ (bs rfl ?_))))))))))
   rw [Nat.mul_one]
   exact bs g (bs rfl (bI (o4.at0 (i := 1) rfl) (bs rfl (bs e5 rfl))))
  ·rcases hz with e | hz
   ·subst e; exact .inl rfl
   ·exact s4.keep k5 fun b hb hu => by have := hz b hb; omega
 ·have bz := and255 (Go.bits .xor .i64 (Int.fdiv hn (2 ^ min ((33 : Int)).toNat 64)) (Int.fdiv hn (2 ^ min ((47 : Int)).toNat 64)))
  refine ⟨_, h4, Am.r193 (bs rfl (bI (o.at0 (i := 2) rfl) (bs rfl ?_))), bz.1, bz.2, ⟨_, zs, i, hn, o4, s4, hz, hl, hi⟩, k4, n4⟩
  rw [hg]
  refine bs e4 (bs rfl (bI (o4.at0 (i := 2) rfl) (bs rfl (bI (o4.at0 (i := 2) rfl) ?_))))
  refine bj (q := ([some (.int .i64 (Go.bits .and .i64 (Go.bits .xor .i64 (Int.fdiv hn (2 ^ min ((33 : Int)).toNat 64)) (Int.fdiv hn (2 ^ min ((47 : Int)).toNat 64))) (255 : Int)))], h4)) ?_ (bI rfl rfl)
  exact bs rfl (bI (o4.at0 (i := 1) rfl) (bs rfl (bS (o4.at0 (i := 0) rfl) (ifF (by simpa using c) rfl))))
theorem l1Below_run {base cb : Nat} {h : AH} {n : Int} (x : CurR base cb h) (hn : n ≤ 256) : ∃ z h', run (Et base) 158 [.pointer (at0 cb), .int .i64 n] h = some (.int .i64 z, h') ∧ 0 ≤ z ∧ (0 < n → z < n) ∧ z ≤ 255 ∧ CurR base cb h' ∧ KB (· = cb) h h' ∧ h'.length = h.length := by
 by_cases c : n ≤ 0
 ·exact ⟨0, h, Am.r158 (ifT (decide_eq_true c) rfl), by omega, fun h => by omega, by omega, x, KB.refl _ _, rfl⟩
 ·obtain ⟨z, h', e, z0, z1, x', k, l⟩ := l1Byte_run x
  have t0 := Int.tmod_nonneg n z0
  have t1 : Int.tmod z n < n := Int.tmod_lt_of_pos z (by omega)
  refine ⟨Int.tmod z n, h', Am.r158 (ifF (by simpa using c) (ifT (decide_eq_true hn) (bs e (bI rfl (ifF (by omega) rfl))))), t0, fun _ => t1, ?_, x', k, l⟩
  have t2 := Int.tmod_eq_emod_of_nonneg (b := n) z0
  have t3 : z % n ≤ z := by
   by_cases cc : z < n
   ·rw [Int.emod_eq_of_lt z0 cc]; omega
   ·omega
  omega
theorem l1Once_run {base cb : Nat} {h : AH} {n : Int} (x : CurR base cb h) (hn : n ≤ 256) : ∃ b h', run (Et base) 155 [.pointer (at0 cb), .int .i64 n] h = some (.bool b, h') ∧ CurR base cb h' ∧ KB (· = cb) h h' ∧ h'.length = h.length := by
 obtain ⟨z, h', e, _, _, _, x', k, l⟩ := l1Below_run (n := n) x hn
 exact ⟨_, h', Am.r155 (bs e (bI rfl rfl)), x', k, l⟩
theorem l1Int_run {base cb : Nat} {h : AH} {a : Option Addr} {zs : List Int} (x : CurR base cb h) (s : Sl h a (iv .i64 zs)) (ha : ∀ b, blk a b → b ≠ cb) (h0 : 0 < zs.length) (h1 : zs.length ≤ 256) : ∃ z h', run (Et base) 93 [.pointer (at0 cb), .slice a zs.length zs.length] h = some (.int .i64 z, h') ∧ z ∈ zs ∧ CurR base cb h' ∧ KB (· = cb) h h' ∧ h'.length = h.length := by
 obtain ⟨z, h', e, z0, z1, _, x', k, l⟩ := l1Below_run (n := (zs.length : Int)) x (by omega)
 have z2 := z1 (by omega)
 obtain ⟨ad, rfl, g⟩ := (s.keep k fun b hb hu => ha b hb hu).int (i := z.toNat) (by omega)
 have hz : z.toNat < zs.length := by omega
 refine ⟨zs[z.toNat], h', Am.r93 (bs e (bI rfl (ifT ⟨z0, z2⟩ (bs rfl ?_)))), List.getElem_mem hz, x', k, l⟩
 rw [Nat.mul_one]
 exact bs g rfl
theorem l1New_loop {base : Nat} {a : Option Addr} {zs : List Int} {h : AH} (hl : zs.length ≤ 9223372036854775806) (s : Sl h a (iv .u8 zs)) : ∀ (d i : Nat) (k : Int), i + d = zs.length → ∃ k', loopL (B91_0 base) [some (.slice a zs.length zs.length), some (.int .i64 k), some (.int .i64 (i : Int))] h = some (2, [some (.slice a zs.length zs.length), some (.int .i64 k')], h) := by
 intro d
 induction d with
 | zero =>
  intro i k hi
  refine ⟨k, loop_off (by decide) ?_⟩
  rw [B91_0_eq]
  refine bj (q := ([some (.slice a zs.length zs.length), some (.int .i64 k), some (.int .i64 (i : Int)), some (.bool false)], h)) (ifF (by simp; omega) rfl) ?_
  exact bS rfl (bI rfl (bI rfl (bB rfl (ifF (by decide) rfl))))
 | succ d ih =>
  intro i k hi
  by_cases c : (i : Int) < 4000
  ·obtain ⟨ad, rfl, g⟩ := s.int (i := i) (by omega)
   obtain ⟨k', e⟩ := ih (i + 1) (Go.bits .and .i64 (IntKind.wrap .i64 ((IntKind.wrap .i64 ((IntKind.wrap .i64 (k * (137 : Int))) + (IntKind.wrap .i64 zs[i]))) + (11 : Int))) (1073741823 : Int)) (by omega)
   refine ⟨k', loop_on ?_ e⟩
   rw [B91_0_eq]
   refine bj (q := ([some (.slice (some ad) zs.length zs.length), some (.int .i64 k), some (.int .i64 (i : Int)), some (.bool true)], h)) (ifT (decide_eq_true (by omega)) (by rw [decide_eq_true c])) ?_
   refine bS rfl (bI rfl (bI rfl (bB rfl (ifT rfl (ifT ⟨by omega, by simp; omega⟩ (bs rfl ?_))))))
   simp only [Int.toNat_natCast, Nat.mul_one]
   refine bs g ?_
   rw [w64i (n := (i : Int) + 1) (by omega) (by omega)]
   rfl
  ·refine ⟨k, loop_off (by decide) ?_⟩
   rw [B91_0_eq]
   refine bj (q := ([some (.slice a zs.length zs.length), some (.int .i64 k), some (.int .i64 (i : Int)), some (.bool false)], h)) (ifT (decide_eq_true (by omega)) (by rw [decide_eq_false c])) ?_
   exact bS rfl (bI rfl (bI rfl (bB rfl (ifF (by decide) rfl))))
theorem l1New_run {base : Nat} {h : AH} {a : Option Addr} {zs : List Int} (s : Sl h a (iv .u8 zs)) (hz : zs = [] ∨ ∀ b, blk a b → b < base) (hl : zs.length ≤ 9223372036854775806) (hb : base ≤ h.length) :
  ∃ h', run (Et base) 91 [.slice a zs.length zs.length] h = some (.pointer (at0 h.length), h') ∧ CurR base h.length h' ∧ KB NoB h h' ∧ h'.length = h.length + 1 := by
 obtain ⟨k', e⟩ := l1New_loop (base := base) hl s zs.length 0 (IntKind.wrap .i64 ((384384 : Int) + ((zs.length : Nat) : Int))) (by omega)
 rw [show ((0 : Nat) : Int) = 0 from rfl] at e
 obtain ⟨o1, k1, q1⟩ := box_own (base := base) (t := 181) (h := h) (cs := [.slice a zs.length zs.length, .int .i64 0, .int .i64 k']) hb rfl
 generalize hh1 : h ++ [some (⟨[.slice a zs.length zs.length, .int .i64 0, .int .i64 k'], 181⟩ : Blk)] = h1 at o1 k1 q1
 refine ⟨h1, Am.r91 (bs e (ifT rfl (bS rfl (bI rfl (lets fun y ey => ?_))))), ⟨a, zs, 0, k', o1, s.keepN k1, hz, hl, by omega⟩, k1, q1⟩
 rw [hh1] at ey
 subst ey
 rfl
end Go.Proofs.Ytjmkbglnjklbcaa.Am
set_option linter.unusedSimpArgs false
set_option linter.unusedVariables false
namespace Go.Proofs.Ytjmkbglnjklbcaa.Am
open Go Go.RowKit
abbrev rArg (base : Nat) (hX : AH) : Rs := ⟨fun b => b < base, false, fun y => base ≤ y.length ∧ ∀ b, b < base → hget y b = hget hX b⟩
def CurK (base cb : Nat) (hX : AH) (y : AH) : Prop := ∃ (a : Option Addr) (zs : List Int) (i hh : Int), Own base 181 y (at0 cb) [.slice a zs.length zs.length, .int .i64 i, .int .i64 hh] ∧ Sl hX a (iv .u8 zs) ∧ (zs = [] ∨ ∀ b, blk a b → b < base) ∧ zs.length ≤ 9223372036854775806 ∧ 0 ≤ i
abbrev rCur (base cb : Nat) (hX : AH) : Rs := ⟨fun b => b = cb, true, CurK base cb hX⟩
theorem Sl.other {base : Nat} {h h' : AH} {a : Option Addr} {zs : List Int} (s : Sl h a (iv .u8 zs)) (hz : zs = [] ∨ ∀ b, blk a b → b < base) (e : ∀ b, b < base → hget h' b = hget h b) : Sl h' a (iv .u8 zs) := by
 rcases hz with hz | hz
 ·subst hz; exact .inl rfl
 ·rcases s with s | ⟨ad, k, e1, e2, e3, e4⟩
  ·exact .inl s
  ·exact .inr ⟨ad, k, e1, by rw [e _ (hz _ ⟨ad, e1, rfl⟩)]; exact e2, e3, e4⟩
theorem CurR.k {base cb : Nat} {hX y : AH} (x : CurR base cb y) (e : ∀ b, b < base → hget y b = hget hX b) : CurK base cb hX y := by
 obtain ⟨a, zs, i, hh, o, s, hz, hl, hi⟩ := x
 exact ⟨a, zs, i, hh, o, s.other hz fun b hb => (e b hb).symm, hz, hl, hi⟩
theorem CurK.r {base cb : Nat} {hX y : AH} (x : CurK base cb hX y) (e : ∀ b, b < base → hget y b = hget hX b) : CurR base cb y := by
 obtain ⟨a, zs, i, hh, o, s, hz, hl, hi⟩ := x
 exact ⟨a, zs, i, hh, o, s.other hz e, hz, hl, hi⟩
theorem CurK.kp {base cb : Nat} {hX : AH} : ∀ (U : Fp) (h h' : AH), KB U h h' → (∀ b, b = cb → ¬ U b) → CurK base cb hX h → CurK base cb hX h' := fun U h h' k hs ⟨a, zs, i, hh, o, q⟩ => ⟨a, zs, i, hh, o.keep k fun b hb => hs b (blk_at0.1 hb), q⟩
theorem argOk {base : Nat} {hX : AH} : (rArg base hX).Ok := fun U y y' k hs q => ⟨Nat.le_trans q.1 k.1, fun b hb => by rw [k.2 b (Nat.lt_of_lt_of_le hb q.1) (hs b hb)]; exact q.2 b hb⟩
namespace Hs
variable {base : Nat} {W : Fp} {h0 h : AH} {D : Ds} {R : List Rs}
theorem cur {cb i j : Nat} {hX : AH} (d : Hs base W h0 h D R) (ej : R[j]? = some (rArg base hX)) (ei : R[i]? = some (rCur base cb hX)) : CurR base cb h := CurK.r (d.rs ei) (d.rs ej).2
theorem drawn {cb i j : Nat} {hX h' : AH} (d : Hs base W h0 h D R) (ej : R[j]? = some (rArg base hX)) (ei : R[i]? = some (rCur base cb hX)) (x : CurR base cb h') (k : KB (· = cb) h h') : Hs base W h0 h' D R := by
 have hcb := x.lt.1
 have e : ∀ b, b < base → hget h' b = hget hX b := fun b hb => by
  have q := d.rs ej
  rw [k.2 b (Nat.lt_of_lt_of_le hb q.1) (by omega)]
  exact q.2 b hb
 have d1 := d.upd (r := rCur base cb hX) (r' := rCur base cb hX) (Upd.at ei) rfl rfl k (fun b hb => .inl hb) (x.k e) CurK.kp (fun b hb => .inl hb)
 have : R.set i (rCur base cb hX) = R := by
  obtain ⟨hi, e⟩ := List.getElem?_eq_some_iff.1 ei
  rw [← e, List.set_getElem_self]
 rwa [this] at d1
end Hs
end Go.Proofs.Ytjmkbglnjklbcaa.Am
set_option linter.unusedSimpArgs false
set_option linter.unusedVariables false
namespace Go.Proofs.Ytjmkbglnjklbcaa.Am
open Go Go.RowKit
def Tm.len : Tm → Nat
 | .mk _ _ _ l => l.length
end Go.Proofs.Ytjmkbglnjklbcaa.Am
set_option linter.unusedSimpArgs false
set_option linter.unusedVariables false
namespace Go.Proofs.Ytjmkbglnjklbcaa.Am
open Go Go.RowKit
def capT : Nat → Int
 | 0 => 1
 | n + 1 => 1 + 3 * capT n
theorem capT_pos : ∀ n, 1 ≤ capT n
 | 0 => by decide
 | n + 1 => by have := capT_pos n; rw [capT]; omega
def Gt (n : Nat) (t : Tm) : Prop := ∀ (F : Nat) (d x : Int), n + 1 ≤ F → (n : Int) + 1 ≤ d → capT n ≤ x → x - capT n ≤ lk F t d x
theorem Gt.leaf {k m : Int} {s : ByteArray} (h : shB k m s 0 = true) (n : Nat) : Gt n (.mk k m s []) := by
 intro F d x hF hd hx
 have := capT_pos n
 cases F with
 | zero => omega
 | succ F =>
  rw [lk, if_neg (by simp [h]; omega), lkS]
  omega
theorem Gt.ok {t : Tm} (h : Gt 2 t) {F : Nat} (hF : 3 ≤ F) : tOk F t = true := decide_eq_true (by
 have := h F 6 100 (by omega) (by omega) (by decide)
 have e : capT 2 = 13 := by decide
 omega)
namespace Hs
variable {base cb : Nat} {W : Fp} {hX h0 h : AH} {D : Ds} {R : List Rs}
theorem cur0 (d : Hs base W h0 h D (rArg base hX :: rCur base cb hX :: R)) : CurR base cb h := d.cur (j := 0) (i := 1) rfl rfl
theorem drawn0 {h' : AH} (d : Hs base W h0 h D (rArg base hX :: rCur base cb hX :: R)) (x : CurR base cb h') (k : KB (· = cb) h h') : Hs base W h0 h' D (rArg base hX :: rCur base cb hX :: R) := d.drawn (j := 0) (i := 1) rfl rfl x k
theorem neC {b t : Nat} {cs : List Value} (d : Hs base W h0 h D (rArg base hX :: rCur base cb hX :: R)) (m : (b, t, cs) ∈ D) : b ≠ cb := (d.res _ (.tail _ (.head _))).2.2.2.2 _ m
theorem below {n : Int} (d : Hs base W h0 h D (rArg base hX :: rCur base cb hX :: R)) (hn : n ≤ 256) : ∃ z h', run (Et base) 158 [.pointer (at0 cb), .int .i64 n] h = some (.int .i64 z, h') ∧ 0 ≤ z ∧ (0 < n → z < n) ∧ z ≤ 255 ∧ Hs base W h0 h' D (rArg base hX :: rCur base cb hX :: R) ∧ KB (· = cb) h h' := by
 obtain ⟨z, h', e, a, b, c, x, k, _⟩ := l1Below_run (n := n) d.cur0 hn
 exact ⟨z, h', e, a, b, c, d.drawn0 x k, k⟩
theorem once {n : Int} (d : Hs base W h0 h D (rArg base hX :: rCur base cb hX :: R)) (hn : n ≤ 256) : ∃ b h', run (Et base) 155 [.pointer (at0 cb), .int .i64 n] h = some (.bool b, h') ∧ Hs base W h0 h' D (rArg base hX :: rCur base cb hX :: R) ∧ KB (· = cb) h h' := by
 obtain ⟨z, h', e, x, k, _⟩ := l1Once_run (n := n) d.cur0 hn
 exact ⟨z, h', e, d.drawn0 x k, k⟩
theorem pick {b : Nat} {zs : List Int} (d : Hs base W h0 h D (rArg base hX :: rCur base cb hX :: R)) (m : (b, 3, iv .i64 zs) ∈ D) (l0 : 0 < zs.length) (l1 : zs.length ≤ 256) : ∃ z h', run (Et base) 93 [.pointer (at0 cb), .slice (at0 b) zs.length zs.length] h = some (.int .i64 z, h') ∧ z ∈ zs ∧ Hs base W h0 h' D (rArg base hX :: rCur base cb hX :: R) ∧ KB (· = cb) h h' := by
 obtain ⟨z, h', e, a, x, k, _⟩ := l1Int_run d.cur0 (d.ol m).sl (fun c hc => by rw [blk_at0] at hc; subst hc; exact d.neC m) l0 l1
 exact ⟨z, h', e, a, d.drawn0 x k, k⟩
end Hs
end Go.Proofs.Ytjmkbglnjklbcaa.Am
set_option linter.unusedSimpArgs false
set_option linter.unusedVariables false
namespace Go.Proofs.Ytjmkbglnjklbcaa.Am
open Go Go.RowKit
end Go.Proofs.Ytjmkbglnjklbcaa.Am
set_option linter.unusedSimpArgs false
set_option linter.unusedVariables false
namespace Go.Proofs.Ytjmkbglnjklbcaa.Am
open Go Go.RowKit
end Go.Proofs.Ytjmkbglnjklbcaa.Am
set_option linter.unusedSimpArgs false
set_option linter.unusedVariables false
namespace Go.Proofs.Ytjmkbglnjklbcaa.Am
open Go Go.RowKit
end Go.Proofs.Ytjmkbglnjklbcaa.Am
set_option linter.unusedSimpArgs false
set_option linter.unusedVariables false
namespace Go.Proofs.Ytjmkbglnjklbcaa.Am
open Go Go.RowKit
theorem sameA_refl {h : AH} {a : Option Addr} {n : Nat} : sameA h h a n := fun _ _ => ⟨fun _ _ => rfl, rfl⟩
end Go.Proofs.Ytjmkbglnjklbcaa.Am
set_option linter.unusedSimpArgs false
set_option linter.unusedVariables false
namespace Go.Proofs.Ytjmkbglnjklbcaa.Am
open Go Go.RowKit
end Go.Proofs.Ytjmkbglnjklbcaa.Am
set_option linter.unusedSimpArgs false
set_option linter.unusedVariables false
namespace Go.Proofs.Ytjmkbglnjklbcaa.Am
open Go Go.RowKit
end Go.Proofs.Ytjmkbglnjklbcaa.Am
set_option linter.unusedSimpArgs false
set_option linter.unusedVariables false
namespace Go.Proofs.Ytjmkbglnjklbcaa.Am
open Go Go.RowKit
end Go.Proofs.Ytjmkbglnjklbcaa.Am
set_option linter.unusedSimpArgs false
set_option linter.unusedVariables false
namespace Go.Proofs.Ytjmkbglnjklbcaa.Am
open Go Go.RowKit
end Go.Proofs.Ytjmkbglnjklbcaa.Am
set_option linter.unusedSimpArgs false
set_option linter.unusedVariables false
namespace Go.Proofs.Ytjmkbglnjklbcaa.Am
open Go Go.RowKit
namespace Hs
variable {base : Nat} {W : Fp} {h0 h : AH} {D : Ds} {R : List Rs}
end Hs
end Go.Proofs.Ytjmkbglnjklbcaa.Am
set_option linter.unusedSimpArgs false
set_option linter.unusedVariables false
namespace Go.Proofs.Ytjmkbglnjklbcaa.Am
open Go Go.RowKit
end Go.Proofs.Ytjmkbglnjklbcaa.Am
set_option linter.unusedSimpArgs false
set_option linter.unusedVariables false
namespace Go.Proofs.Ytjmkbglnjklbcaa.Am
open Go Go.RowKit
end Go.Proofs.Ytjmkbglnjklbcaa.Am
set_option linter.unusedSimpArgs false
set_option linter.unusedVariables false
namespace Go.Proofs.Ytjmkbglnjklbcaa.Am
open Go Go.RowKit
end Go.Proofs.Ytjmkbglnjklbcaa.Am
set_option linter.unusedSimpArgs false
set_option linter.unusedVariables false
namespace Go.Proofs.Ytjmkbglnjklbcaa.Am
open Go Go.RowKit
namespace Hs
variable {base cb : Nat} {V : Fp} {hX h0 h : AH} {D : Ds}
end Hs
end Go.Proofs.Ytjmkbglnjklbcaa.Am
set_option linter.unusedSimpArgs false
set_option linter.unusedVariables false
namespace Go.Proofs.Ytjmkbglnjklbcaa.Am
open Go Go.RowKit
end Go.Proofs.Ytjmkbglnjklbcaa.Am
set_option linter.unusedSimpArgs false
set_option linter.unusedVariables false
namespace Go.Proofs.Ytjmkbglnjklbcaa.Am
open Go Go.RowKit
end Go.Proofs.Ytjmkbglnjklbcaa.Am
set_option linter.unusedSimpArgs false
set_option linter.unusedVariables false
namespace Go.Proofs.Ytjmkbglnjklbcaa.Am
open Go Go.RowKit
theorem Hs.newD {base : Nat} {W : Fp} {h0 h h' : AH} {D : Ds} (d : Hs base W h0 h D []) (x : CurR base h.length h') (k : KB NoB h h') : Hs base W h0 h' D [rArg base h', rCur base h.length h'] := by
 have d' := d.kN k
 refine ⟨d'.ge, d'.kb, d'.own, d'.nd, fun r hr => ?_, ?_⟩
 ·simp only [List.mem_cons, List.not_mem_nil, or_false] at hr
  have hb := d.ge
  have hk := k.1
  rcases hr with rfl | rfl
  ·refine ⟨⟨Nat.le_trans hb hk, fun _ _ => rfl⟩, argOk, fun b (hb2 : b < base) => by omega, fun m => (nomatch m), fun x hx => ?_⟩
   have := ((d.own x hx).1.lt (blk_at0.2 rfl)).1
   show ¬ x.1 < base
   omega
  ·refine ⟨x.k fun _ _ => rfl, CurK.kp, fun b hb2 => by simp only at hb2; subst hb2; exact x.lt.2, fun _ b hb2 => by simp only at hb2; subst hb2; exact .inr d.kb.1, fun x hx => ?_⟩
   have := ((d.own x hx).1.lt (blk_at0.2 rfl)).2
   show ¬ x.1 = h.length
   omega
 ·simp only [List.pairwise_cons, List.mem_cons, List.not_mem_nil, or_false]
  refine ⟨fun r hr => ?_, ?_⟩
  ·subst hr
   intro _ b h1 h2
   simp only at h1 h2
   have := x.lt.1
   omega
  ·simp
def CodR (l : List In) (ao : Option Addr) (y : AH) : Prop := Sl y ao (insR l) ∧ l.length ≤ 200 ∧ ∀ y ∈ l, y.s.size ≤ 1048576
theorem CodR.kp {l : List In} {ao : Option Addr} : ∀ (U : Fp) (h h' : AH), KB U h h' → (∀ b, blk ao b → ¬ U b) → CodR l ao h → CodR l ao h' := fun U h h' k hs x => ⟨x.1.keep k hs, x.2⟩
end Go.Proofs.Ytjmkbglnjklbcaa.Am
set_option linter.unusedSimpArgs false
set_option linter.unusedVariables false
namespace Go.Proofs.Ytjmkbglnjklbcaa.Am
open Go Go.RowKit
def bsW (at_ n : Int) (u : Bool) : Int := (at_ * 7919 + n * 104729 + (if u = true then 2 else 1)) * 3
def gW (at_ n : Int) (u : Bool) : Int := if (!inB at_ 0 4000 || !inB n 0 4000) = true then 0 else (bsW at_ n u + 1000) % 1000003
def reW (at_ n : Int) (u : Bool) : Int := if (!inB at_ 0 4000 || !inB n 0 4000) = true then 0 else (bsW at_ n u + 1001) % 1000003
def poW (at_ : Int) : Int := if (!inB at_ 0 4000) = true then 0 else (at_ * 31 + 7777) % 1000003
theorem inB_iff {a b c : Int} : inB a b c = true ↔ b ≤ a ∧ a ≤ c := by unfold inB; simp
theorem Wp.eq {β : Type} {x : Option β} {v : β} (w : Wp x fun o => o = v) : x = some v := by
 obtain ⟨o, e, rfl⟩ := w
 exact e
theorem l2In_run {base : Nat} {h : AH} {a : Int} : run (Et base) 168 [.int .i64 a] h = some (.bool (inB a 0 4000), h) := by
 refine Wp.eq (W.of (fun r hx => Am.r168 hx) ?_)
 exact W.bs l1In_run (W.bB rfl (W.ret rfl))
theorem mix_run {base : Nat} {h : AH} {a n : Int} {u : Bool} (ha : 0 ≤ a ∧ a ≤ 4000) (hn : 0 ≤ n ∧ n ≤ 4000) : run (Et base) 200 [.int .i64 a, .int .i64 n, .bool u] h = some (.int .i64 (bsW a n u), h) := by
 refine Wp.eq (W.of (fun r hx => Am.r200 hx) ?_)
 refine W.joinP (fun q => q = ([some (.int .i64 a), some (.int .i64 n), some (.int .i64 (if u = true then 2 else 1))], h)) ?_ ?_
 ·refine W.ite (fun c => ?_) (fun c => ?_)
  ·rw [if_pos c]; exact W.inl rfl
  ·rw [if_neg c]; exact W.inl rfl
 rintro q rfl
 refine W.bI rfl (W.bI rfl (W.bI rfl ?_))
 have hx : 1 ≤ (if u = true then (2 : Int) else 1) ∧ (if u = true then (2 : Int) else 1) ≤ 2 := by split <;> omega
 unfold bsW
 generalize (if u = true then (2 : Int) else 1) = x at hx
 rw [w64i (n := a * 7919) (by omega) (by omega), w64i (n := n * 104729) (by omega) (by omega), w64i (n := a * 7919 + n * 104729) (by omega) (by omega), w64i (n := a * 7919 + n * 104729 + x) (by omega) (by omega), w64i (n := (a * 7919 + n * 104729 + x) * 3) (by omega) (by omega)]
 exact W.ret rfl
theorem bsW_le {a n : Int} {u : Bool} (ha : 0 ≤ a ∧ a ≤ 4000) (hn : 0 ≤ n ∧ n ≤ 4000) : 0 ≤ bsW a n u ∧ bsW a n u ≤ 2000000000 := by
 have hx : 1 ≤ (if u = true then (2 : Int) else 1) ∧ (if u = true then (2 : Int) else 1) ≤ 2 := by split <;> omega
 unfold bsW
 omega
theorem base_run {base : Nat} {h : AH} {a n : Int} {u : Bool} (ha : 0 ≤ a ∧ a ≤ 4000) (hn : 0 ≤ n ∧ n ≤ 4000) : run (Et base) 172 [.int .i64 a, .int .i64 n, .bool u] h = some (.int .i64 (a * 7919 + n * 104729 + (if u = true then 2 else 1)), h) := by
 refine Wp.eq (W.of (fun r hx => Am.r172 hx) ?_)
 rw [w64i (n := a * 7919) (by omega) (by omega), w64i (n := n * 104729) (by omega) (by omega), w64i (n := a * 7919 + n * 104729) (by omega) (by omega), w64i (n := a * 7919 + n * 104729 + 2) (by omega) (by omega), w64i (n := a * 7919 + n * 104729 + 1) (by omega) (by omega)]
 refine W.ite (fun c => ?_) (fun c => ?_)
 ·rw [if_pos c]; exact W.ret rfl
 ·rw [if_neg c]; exact W.ret rfl
theorem specGuard_run {base : Nat} {h : AH} {a n : Int} {u : Bool} : run (Et base) 169 [.int .i64 a, .int .i64 n, .bool u] h = some (.int .i64 (gW a n u), h) := by
 refine Wp.eq (W.of (fun r hx => Am.r169 hx) ?_)
 refine W.joinP (fun q => q = ([some (.int .i64 a), some (.int .i64 n), some (.bool u), some (.bool (!inB a 0 4000 || !inB n 0 4000))], h)) ?_ ?_
 ·refine W.bs l2In_run (W.bB rfl ?_)
  refine W.ite (fun c => ?_) (fun c => ?_)
  ·rw [c]; exact W.inl rfl
  ·refine W.bs l2In_run (W.bB rfl ?_)
   have : (!inB a 0 4000) = false := by simpa using c
   rw [this]
   exact W.inl rfl
 rintro q rfl
 refine W.bI rfl (W.bI rfl (W.bB rfl (W.bB rfl ?_)))
 unfold gW
 refine W.ite (fun c => ?_) (fun c => ?_)
 ·rw [if_pos c]; exact W.ret rfl
 ·rw [if_neg c]
  simp only [Bool.or_eq_true, Bool.not_eq_true', not_or, Bool.not_eq_false] at c
  have ha := inB_iff.1 c.1
  have hn := inB_iff.1 c.2
  have hb := bsW_le (u := u) ha hn
  refine W.bs (mix_run ha hn) (W.bI rfl ?_)
  rw [w64i (n := bsW a n u + 1000) (by omega) (by omega), Int.tmod_eq_emod_of_nonneg (by omega)]
  exact W.ret rfl
theorem specRear_run {base : Nat} {h : AH} {a n : Int} {u : Bool} : run (Et base) 170 [.int .i64 a, .int .i64 n, .bool u] h = some (.int .i64 (reW a n u), h) := by
 refine Wp.eq (W.of (fun r hx => Am.r170 hx) ?_)
 refine W.joinP (fun q => q = ([some (.int .i64 a), some (.int .i64 n), some (.bool u), some (.bool (!inB a 0 4000 || !inB n 0 4000))], h)) ?_ ?_
 ·refine W.bs l2In_run (W.bB rfl ?_)
  refine W.ite (fun c => ?_) (fun c => ?_)
  ·rw [c]; exact W.inl rfl
  ·refine W.bs l2In_run (W.bB rfl ?_)
   have : (!inB a 0 4000) = false := by simpa using c
   rw [this]
   exact W.inl rfl
 rintro q rfl
 refine W.bI rfl (W.bI rfl (W.bB rfl (W.bB rfl ?_)))
 unfold reW
 refine W.ite (fun c => ?_) (fun c => ?_)
 ·rw [if_pos c]; exact W.ret rfl
 ·rw [if_neg c]
  simp only [Bool.or_eq_true, Bool.not_eq_true', not_or, Bool.not_eq_false] at c
  have ha := inB_iff.1 c.1
  have hn := inB_iff.1 c.2
  have hb := bsW_le (u := u) ha hn
  refine W.bs (mix_run ha hn) (W.bI rfl ?_)
  rw [w64i (n := bsW a n u + 1001) (by omega) (by omega), Int.tmod_eq_emod_of_nonneg (by omega)]
  exact W.ret rfl
theorem implGuard_run {base : Nat} {h : AH} {a n : Int} {u : Bool} : run (Et base) 127 [.int .i64 a, .int .i64 n, .bool u] h = some (.int .i64 (gW a n u), h) := by
 refine Wp.eq (W.of (fun r hx => Am.r127 hx) ?_)
 refine W.joinP (fun q => q = ([some (.int .i64 a), some (.int .i64 n), some (.bool u), some (.bool (!inB a 0 4000 || !inB n 0 4000))], h)) ?_ ?_
 ·refine W.bs in_run (W.bB rfl ?_)
  refine W.ite (fun c => ?_) (fun c => ?_)
  ·rw [c]; exact W.inl rfl
  ·refine W.bs in_run (W.bB rfl ?_)
   have : (!inB a 0 4000) = false := by simpa using c
   rw [this]
   exact W.inl rfl
 rintro q rfl
 refine W.bI rfl (W.bI rfl (W.bB rfl (W.bB rfl ?_)))
 unfold gW
 refine W.ite (fun c => ?_) (fun c => ?_)
 ·rw [if_pos c]; exact W.ret rfl
 ·rw [if_neg c]
  simp only [Bool.or_eq_true, Bool.not_eq_true', not_or, Bool.not_eq_false] at c
  have ha := inB_iff.1 c.1
  have hn := inB_iff.1 c.2
  have hb := bsW_le (u := u) ha hn
  refine W.bs (base_run ha hn) (W.bI rfl ?_)
  rw [show (a * 7919 + n * 104729 + (if u = true then 2 else 1)) * 3 = bsW a n u from rfl, w64i (n := bsW a n u) (by omega) (by omega), w64i (n := bsW a n u + 1000) (by omega) (by omega), Int.tmod_eq_emod_of_nonneg (by omega)]
  exact W.ret rfl
theorem implRear_run {base : Nat} {h : AH} {a n : Int} {u : Bool} : run (Et base) 128 [.int .i64 a, .int .i64 n, .bool u] h = some (.int .i64 (reW a n u), h) := by
 refine Wp.eq (W.of (fun r hx => Am.r128 hx) ?_)
 refine W.joinP (fun q => q = ([some (.int .i64 a), some (.int .i64 n), some (.bool u), some (.bool (!inB a 0 4000 || !inB n 0 4000))], h)) ?_ ?_
 ·refine W.bs in_run (W.bB rfl ?_)
  refine W.ite (fun c => ?_) (fun c => ?_)
  ·rw [c]; exact W.inl rfl
  ·refine W.bs in_run (W.bB rfl ?_)
   have : (!inB a 0 4000) = false := by simpa using c
   rw [this]
   exact W.inl rfl
 rintro q rfl
 refine W.bI rfl (W.bI rfl (W.bB rfl (W.bB rfl ?_)))
 unfold reW
 refine W.ite (fun c => ?_) (fun c => ?_)
 ·rw [if_pos c]; exact W.ret rfl
 ·rw [if_neg c]
  simp only [Bool.or_eq_true, Bool.not_eq_true', not_or, Bool.not_eq_false] at c
  have ha := inB_iff.1 c.1
  have hn := inB_iff.1 c.2
  have hb := bsW_le (u := u) ha hn
  refine W.bs (base_run ha hn) (W.bI rfl ?_)
  rw [show (a * 7919 + n * 104729 + (if u = true then 2 else 1)) * 3 = bsW a n u from rfl, w64i (n := bsW a n u) (by omega) (by omega), w64i (n := bsW a n u + 1001) (by omega) (by omega), Int.tmod_eq_emod_of_nonneg (by omega)]
  exact W.ret rfl
theorem specPoison_run {base : Nat} {h : AH} {a : Int} : run (Et base) 171 [.int .i64 a] h = some (.int .i64 (poW a), h) := by
 refine Wp.eq (W.of (fun r hx => Am.r171 hx) ?_)
 refine W.bs l2In_run (W.bB rfl ?_)
 unfold poW
 refine W.ite (fun c => ?_) (fun c => ?_)
 ·rw [if_pos c]; exact W.ret rfl
 ·rw [if_neg c]
  have ha := inB_iff.1 (show inB a 0 4000 = true by simpa using c)
  rw [w64i (n := a * 31) (by omega) (by omega), w64i (n := a * 31 + 7777) (by omega) (by omega), Int.tmod_eq_emod_of_nonneg (by omega)]
  exact W.ret rfl
theorem implPoison_run {base : Nat} {h : AH} {a : Int} : run (Et base) 129 [.int .i64 a] h = some (.int .i64 (poW a), h) := by
 refine Wp.eq (W.of (fun r hx => Am.r129 hx) ?_)
 refine W.bs in_run (W.bB rfl ?_)
 unfold poW
 refine W.ite (fun c => ?_) (fun c => ?_)
 ·rw [if_pos c]; exact W.ret rfl
 ·rw [if_neg c]
  have ha := inB_iff.1 (show inB a 0 4000 = true by simpa using c)
  rw [w64i (n := a * 31) (by omega) (by omega), w64i (n := a * 31 + 7777) (by omega) (by omega), Int.tmod_eq_emod_of_nonneg (by omega)]
  exact W.ret rfl
end Go.Proofs.Ytjmkbglnjklbcaa.Am
set_option linter.unusedSimpArgs false
set_option linter.unusedVariables false
namespace Go.Proofs.Ytjmkbglnjklbcaa.Am
open Go Go.RowKit
def bOk (Z : List Int) (a n : Nat) (u : Bool) : Prop := 1 ≤ n ∧ a + n + 3 ≤ Z.length ∧ Z[a + 1]? = some (n : Int) ∧ Z[a]? = some (gW a n u) ∧ Z[a + 2 + n]? = some (reW a n u) ∧ (u = false → ∀ i, i < n → Z[a + 2 + i]? = some (poW ((a + 2 + i : Nat) : Int)))
theorem gW_in {a n : Int} {u : Bool} (ha : 0 ≤ a ∧ a ≤ 4000) (hn : 0 ≤ n ∧ n ≤ 4000) : gW a n u = (bsW a n u + 1000) % 1000003 ∧ reW a n u = (bsW a n u + 1001) % 1000003 := by
 unfold gW reW
 rw [inB_iff.2 ha, inB_iff.2 hn]
 exact ⟨rfl, rfl⟩
theorem gW_ne {a n : Int} {u v : Bool} (ha : 0 ≤ a ∧ a ≤ 4000) (hn : 0 ≤ n ∧ n ≤ 4000) (h : gW a n u = gW a n v) : u = v := by
 rw [(gW_in ha hn).1, (gW_in ha hn).1] at h
 unfold bsW at h
 cases u <;> cases v
 ·rfl
 ·simp only [Bool.false_eq_true, if_false, if_true] at h; omega
 ·simp only [Bool.false_eq_true, if_false, if_true] at h; omega
 ·rfl
theorem bOk.fun_ {Z : List Int} {a n m : Nat} {u v : Bool} (hZ : Z.length ≤ 4000) (h : bOk Z a n u) (h' : bOk Z a m v) : n = m ∧ u = v := by
 obtain ⟨a1, a2, a3, a4, a5, a6⟩ := h
 obtain ⟨b1, b2, b3, b4, b5, b6⟩ := h'
 rw [a3] at b3
 injection b3 with b3
 have e : n = m := by omega
 subst e
 rw [a4] at b4
 injection b4 with b4
 exact ⟨rfl, gW_ne (by omega) (by omega) b4⟩
def ChS (Z : List Int) : Nat → List (Nat × Bool) → Nat → Prop
 | a, [], e => a = e
 | a, b :: r, e => bOk Z a b.1 b.2 ∧ ChS Z (a + b.1 + 3) r e
def blen : List (Nat × Bool) → Nat
 | [] => 0
 | b :: r => b.1 + 3 + blen r
theorem ChS.len {Z : List Int} : ∀ {bs : List (Nat × Bool)} {a e : Nat}, ChS Z a bs e → e = a + blen bs
 | [], a, e, h => by simp only [ChS] at h; simp [blen, h]
 | b :: r, a, e, h => by have := ChS.len h.2; simp only [blen]; omega
theorem blen_app (x y : List (Nat × Bool)) : blen (x ++ y) = blen x + blen y := by
 induction x with
 | nil => simp [blen]
 | cons b r ih => simp only [List.cons_append, blen, ih]; omega
theorem ChS.app {Z : List Int} {y : List (Nat × Bool)} {e : Nat} : ∀ {x : List (Nat × Bool)} {a : Nat}, ChS Z a (x ++ y) e ↔ ChS Z a x (a + blen x) ∧ ChS Z (a + blen x) y e
 | [], a => by simp [ChS, blen]
 | b :: r, a => by
  simp only [List.cons_append, ChS, blen]
  rw [ChS.app (x := r), show a + (b.1 + 3 + blen r) = a + b.1 + 3 + blen r from by omega, and_assoc]
theorem bOk.congr {Z Z' : List Int} {a n : Nat} {u : Bool} (hl : Z'.length = Z.length) (h : ∀ i, a ≤ i → i < a + n + 3 → Z'[i]? = Z[i]?) (x : bOk Z a n u) : bOk Z' a n u := by
 obtain ⟨a1, a2, a3, a4, a5, a6⟩ := x
 exact ⟨a1, by omega, by rw [h _ (by omega) (by omega)]; exact a3, by rw [h _ (by omega) (by omega)]; exact a4, by rw [h _ (by omega) (by omega)]; exact a5, fun hu i hi => by rw [h _ (by omega) (by omega)]; exact a6 hu i hi⟩
theorem ChS.congr {Z Z' : List Int} (hl : Z'.length = Z.length) : ∀ {bs : List (Nat × Bool)} {a e : Nat}, (∀ i, a ≤ i → i < e → Z'[i]? = Z[i]?) → ChS Z a bs e → ChS Z' a bs e
 | [], a, e, h, x => x
 | b :: r, a, e, h, x => by
  have hr := x.2.len
  exact ⟨x.1.congr hl fun i h1 h2 => h i h1 (by omega), ChS.congr hl (fun i h1 h2 => h i (by omega) h2) x.2⟩
def naf : Bool → List (Nat × Bool) → Bool
 | _, [] => true
 | f, b :: r => (b.2 || !f) && naf (!b.2) r
def lf : Bool → List (Nat × Bool) → Bool
 | f, [] => f
 | _, b :: r => lf (!b.2) r
theorem naf_app : ∀ (x : List (Nat × Bool)) (f : Bool) (y : List (Nat × Bool)), naf f (x ++ y) = (naf f x && naf (lf f x) y)
 | [], f, y => by simp [naf, lf]
 | b :: r, f, y => by simp only [List.cons_append, naf, lf, naf_app r, Bool.and_assoc]
theorem lf_app : ∀ (x : List (Nat × Bool)) (f : Bool) (y : List (Nat × Bool)), lf f (x ++ y) = lf (lf f x) y
 | [], f, y => rfl
 | b :: r, f, y => by simp only [List.cons_append, lf, lf_app r]
def AuOk (Z : List Int) : Prop := ∃ bs, ChS Z 0 bs Z.length ∧ naf false bs = true
def payW (a n : Nat) (u : Bool) : List Int := if u = true then List.replicate n 0 else (List.range n).map fun i => poW ((a + 2 + i : Nat) : Int)
theorem payW_len (a n : Nat) (u : Bool) : (payW a n u).length = n := by unfold payW; split <;> simp
def blkW (a n : Nat) (u : Bool) : List Int := gW a n u :: (n : Int) :: (payW a n u ++ [reW a n u])
theorem blkW_len (a n : Nat) (u : Bool) : (blkW a n u).length = n + 3 := by unfold blkW; simp only [List.length_cons, List.length_append, payW_len, List.length_nil]
def layW (Z : List Int) (a n : Nat) (u : Bool) : List Int := spl Z a (blkW a n u)
theorem layW_len {Z : List Int} {a n : Nat} {u : Bool} (h : a + n + 3 ≤ Z.length) : (layW Z a n u).length = Z.length := spl_len (by rw [blkW_len]; omega)
theorem layW_out {Z : List Int} {a n i : Nat} {u : Bool} (h : a + n + 3 ≤ Z.length) (hi : i < a ∨ a + n + 3 ≤ i) : (layW Z a n u)[i]? = Z[i]? := by
 unfold layW
 rw [spl_get (by rw [blkW_len]; omega), blkW_len]
 rcases hi with hi | hi
 ·rw [if_pos hi]
 ·rw [if_neg (by omega), if_neg (by omega)]
theorem layW_in {Z : List Int} {a n i : Nat} {u : Bool} (h : a + n + 3 ≤ Z.length) (hi : i < n + 3) : (layW Z a n u)[a + i]? = (blkW a n u)[i]? := by
 unfold layW
 rw [spl_get (by rw [blkW_len]; omega), blkW_len, if_neg (by omega), if_pos (by omega), Nat.add_sub_cancel_left]
theorem layW_pay {Z : List Int} {a n i : Nat} {u : Bool} (h : a + n + 3 ≤ Z.length) (hi : i < n) : (layW Z a n u)[a + 2 + i]? = (payW a n u)[i]? := by
 rw [Nat.add_assoc, layW_in h (by omega)]
 unfold blkW
 rw [Nat.add_comm 2 i, List.getElem?_cons_succ, List.getElem?_cons_succ, List.getElem?_append_left (by rw [payW_len]; exact hi)]
theorem layW_ok {Z : List Int} {a n : Nat} {u : Bool} (hn : 1 ≤ n) (h : a + n + 3 ≤ Z.length) : bOk (layW Z a n u) a n u := by
 refine ⟨hn, by rw [layW_len h]; exact h, ?_, ?_, ?_, fun hu i hi => ?_⟩
 ·rw [layW_in h (by omega)]; rfl
 ·have e := layW_in (u := u) (i := 0) h (by omega)
  rw [Nat.add_zero] at e
  rw [e]; rfl
 ·rw [Nat.add_assoc, layW_in h (by omega)]
  unfold blkW
  rw [Nat.add_comm 2 n, List.getElem?_cons_succ, List.getElem?_cons_succ, List.getElem?_append_right (by rw [payW_len]; omega), payW_len, Nat.sub_self]
  rfl
 ·rw [layW_pay h hi]
  subst hu
  unfold payW
  rw [if_neg (by decide), List.getElem?_map, List.getElem?_range hi]
  rfl
def tkW (Z : List Int) (p m n : Nat) : List Int := if n + 4 ≤ m then layW (layW Z (p + n + 3) (m - n - 3) false) p n true else layW Z p m true
def tkN (m n : Nat) : Nat := if n + 4 ≤ m then n else m
theorem tk_ok {Z : List Int} {pre post : List (Nat × Bool)} {m n : Nat} (hc : ChS Z 0 (pre ++ (m, false) :: post) Z.length) (hf : naf false (pre ++ (m, false) :: post) = true) (h1 : 1 ≤ n) (hn : n ≤ m) : (tkW Z (blen pre) m n).length = Z.length ∧ ∃ post', ChS (tkW Z (blen pre) m n) 0 (pre ++ (tkN m n, true) :: post') Z.length ∧ naf false (pre ++ (tkN m n, true) :: post') = true ∧ (∀ i, i < tkN m n → (tkW Z (blen pre) m n)[blen pre + 2 + i]? = some 0) ∧ (∀ i, i < blen pre ∨ blen pre + m + 3 ≤ i → (tkW Z (blen pre) m n)[i]? = Z[i]?) ∧ tkN m n ≤ m ∧ 1 ≤ tkN m n ∧ (∃ q : List (Nat × Bool), post' = q ++ post ∧ (∀ b ∈ q, b.2 = false)) := by
 rw [ChS.app] at hc
 obtain ⟨c1, c2, c3⟩ := hc
 simp only [Nat.zero_add] at c1 c2 c3
 rw [naf_app] at hf
 simp only [naf, Bool.and_eq_true, Bool.false_or, Bool.not_false] at hf
 obtain ⟨f1, f2, f3⟩ := hf
 have hl := c2.2.1
 unfold tkW tkN
 by_cases c : n + 4 ≤ m
 ·rw [if_pos c, if_pos c]
  have l1 : (layW Z (blen pre + n + 3) (m - n - 3) false).length = Z.length := layW_len (by omega)
  have l2 : (layW (layW Z (blen pre + n + 3) (m - n - 3) false) (blen pre) n true).length = Z.length := by rw [layW_len (by omega), l1]
  have out : ∀ i, i < blen pre ∨ blen pre + m + 3 ≤ i → (layW (layW Z (blen pre + n + 3) (m - n - 3) false) (blen pre) n true)[i]? = Z[i]? := fun i hi => by
   rw [layW_out (by omega) (by omega), layW_out (by omega) (by omega)]
  refine ⟨l2, (m - n - 3, false) :: post, ?_, ?_, fun i hi => ?_, out, by omega, h1, [(m - n - 3, false)], rfl, by simp⟩
  ·rw [ChS.app]
   simp only [Nat.zero_add]
   refine ⟨ChS.congr l2 (fun i _ hi => out i (.inl hi)) c1, layW_ok h1 (by omega), ?_, ?_⟩
   ·exact (layW_ok (by omega) (by omega)).congr (by rw [l2, l1]) fun i hi hi2 => layW_out (by omega) (.inr (by simp only at hi ⊢; omega))
   ·have e : blen pre + n + 3 + (m - n - 3) + 3 = blen pre + m + 3 := by omega
    simp only
    rw [e]
    exact ChS.congr l2 (fun i hi _ => out i (.inr hi)) c3
  ·rw [naf_app]
   simp only [naf, Bool.and_eq_true, Bool.true_or, Bool.not_true, Bool.not_false, Bool.or_true]
   exact ⟨f1, trivial, trivial, f3⟩
  ·rw [layW_pay (by omega) hi]
   unfold payW
   rw [if_pos rfl, List.getElem?_replicate, if_pos hi]
 ·rw [if_neg c, if_neg c]
  have l2 : (layW Z (blen pre) m true).length = Z.length := layW_len (by omega)
  have out : ∀ i, i < blen pre ∨ blen pre + m + 3 ≤ i → (layW Z (blen pre) m true)[i]? = Z[i]? := fun i hi => layW_out (by omega) hi
  refine ⟨l2, post, ?_, ?_, fun i hi => ?_, out, Nat.le_refl _, by omega, [], rfl, by simp⟩
  ·rw [ChS.app]
   simp only [Nat.zero_add]
   exact ⟨ChS.congr l2 (fun i _ hi => out i (.inl hi)) c1, layW_ok (by omega) (by omega), ChS.congr l2 (fun i hi _ => out i (.inr hi)) c3⟩
  ·rw [naf_app]
   simp only [naf, Bool.and_eq_true, Bool.true_or, Bool.not_true]
   refine ⟨f1, trivial, ?_⟩
   cases post with
   | nil => rfl
   | cons b r =>
    simp only [naf, Bool.not_true, Bool.not_false, Bool.or_false, Bool.and_eq_true] at f3 ⊢
    exact ⟨by simp, f3.2⟩
  ·rw [layW_pay (by omega) hi]
   unfold payW
   rw [if_pos rfl, List.getElem?_replicate, if_pos hi]
theorem fr_ok {Z : List Int} {A B C : List (Nat × Bool)} (hc : ChS Z 0 (A ++ (B ++ C)) Z.length) (hB : 4 ≤ blen B) (h1 : naf false A = true) (h2 : lf false A = false) (h3 : naf true C = true) : (layW Z (blen A) (blen B - 3) false).length = Z.length ∧ ChS (layW Z (blen A) (blen B - 3) false) 0 (A ++ (blen B - 3, false) :: C) Z.length ∧ naf false (A ++ (blen B - 3, false) :: C) = true := by
 have hlen := hc.len
 rw [blen_app, blen_app] at hlen
 rw [ChS.app, ChS.app] at hc
 obtain ⟨c1, c2, c3⟩ := hc
 simp only [Nat.zero_add] at c1 c2 c3
 have l2 : (layW Z (blen A) (blen B - 3) false).length = Z.length := layW_len (by omega)
 refine ⟨l2, ?_, ?_⟩
 ·rw [ChS.app]
  simp only [Nat.zero_add]
  refine ⟨ChS.congr l2 (fun i _ hi => layW_out (by omega) (.inl hi)) c1, layW_ok (by omega) (by omega), ?_⟩
  have e : blen A + (blen B - 3) + 3 = blen A + blen B := by omega
  simp only
  rw [e]
  exact ChS.congr l2 (fun i hi _ => layW_out (by omega) (.inr (by omega))) c3
 ·rw [naf_app, h1, h2]
  simp only [naf, Bool.not_false, Bool.or_true, Bool.true_and]
  exact h3
theorem wr_ok {Z : List Int} {pre post : List (Nat × Bool)} {m i : Nat} {v : Int} (hc : ChS Z 0 (pre ++ (m, true) :: post) Z.length) (hi : i < m) : ChS (Z.set (blen pre + 2 + i) v) 0 (pre ++ (m, true) :: post) Z.length := by
 have hl : (Z.set (blen pre + 2 + i) v).length = Z.length := List.length_set ..
 have out : ∀ j, j ≠ blen pre + 2 + i → (Z.set (blen pre + 2 + i) v)[j]? = Z[j]? := fun j hj => by rw [List.getElem?_set_ne (by omega)]
 rw [ChS.app] at hc ⊢
 obtain ⟨c1, c2, c3⟩ := hc
 simp only [Nat.zero_add] at c1 c2 c3 ⊢
 refine ⟨ChS.congr hl (fun j _ hj => out j (by omega)) c1, ?_, ChS.congr hl (fun j hj _ => out j (by omega)) c3⟩
 obtain ⟨a1, a2, a3, a4, a5, a6⟩ := c2
 exact ⟨a1, by rw [hl]; exact a2, by rw [out _ (by omega)]; exact a3, by rw [out _ (by omega)]; exact a4, by rw [out _ (by omega)]; exact a5, fun h => (nomatch h)⟩
theorem ChS.pre {Z : List Int} (hZ : Z.length ≤ 4000) {p e : Nat} : ∀ {pre bs : List (Nat × Bool)} {a : Nat}, ChS Z a pre p → ChS Z a bs e → p < e → ∃ b rest, bs = pre ++ b :: rest ∧ bOk Z p b.1 b.2
 | [], [], a, h1, h2, h => by simp only [ChS] at h1 h2; omega
 | [], b :: rest, a, h1, h2, h => by
  simp only [ChS] at h1
  subst h1
  exact ⟨b, rest, rfl, h2.1⟩
 | c :: pre, [], a, h1, h2, h => by
  have := h1.2.len
  simp only [ChS] at h2
  omega
 | c :: pre, d :: bs, a, h1, h2, h => by
  obtain ⟨e1, e2⟩ := h1.1.fun_ hZ h2.1
  have ed : c = d := by obtain ⟨c1, c2⟩ := c; obtain ⟨d1, d2⟩ := d; simp only at e1 e2; rw [e1, e2]
  subst ed
  obtain ⟨b, rest, x, y⟩ := ChS.pre hZ h1.2 h2.2 h
  exact ⟨b, rest, by rw [x]; rfl, y⟩
end Go.Proofs.Ytjmkbglnjklbcaa.Am
set_option linter.unusedSimpArgs false
set_option linter.unusedVariables false
namespace Go.Proofs.Ytjmkbglnjklbcaa.Am
open Go Go.RowKit
theorem rdZ {h : AH} {a : Option Addr} {Z : List Int} {j : Nat} (hs : Sl h a (iv .i64 Z)) (hj : j < Z.length) : ∃ ad v, a = some ad ∧ Z[j]? = some v ∧ Am.cell h ad.block (ad.off + j) = some (.int .i64 v) := by
 obtain ⟨ad, h1, h2⟩ := hs.cell (i := j) (v := .int .i64 Z[j]) (by simp [iv, List.getElem?_eq_getElem hj])
 exact ⟨ad, Z[j], h1, List.getElem?_eq_getElem hj, h2⟩
def BkR (base F : Nat) : Prop := ∀ (h : AH) (a : Option Addr) (Z : List Int) (p : Nat), Sl h a (iv .i64 Z) → Z.length ≤ 4000 → p ≤ 5000 → base ≤ h.length →
 Wp (run (Et base) F [.agg #[.slice a Z.length Z.length], .int .i64 (p : Int)] h) fun o => KB NoB h o.2 ∧ ((∃ n u, bOk Z p n u ∧ o.1 = .tuple #[.int .i64 (n : Int), .bool u, .bool true]) ∨ ((∀ n u, ¬ bOk Z p n u) ∧ o.1 = .tuple #[.int .i64 0, .bool false, .bool false]))
theorem implBk_loop {base : Nat} {h h0 : AH} {V : Fp} {b : Nat} {a : Option Addr} {Z : List Int} {p n : Nat} (d : Hs base V h0 h [(b, 91, [.slice a Z.length Z.length])] []) (hs : Sl h a (iv .i64 Z)) (hZ : Z.length ≤ 4000) (hp : p + n + 3 ≤ Z.length) : ∀ (r i : Nat), i + r = p + 2 + n →
  (loopL (B61_0 base) [some (.int .i64 (p : Int)), some (.pointer (at0 b)), some (.int .i64 (n : Int)), some (.int .i64 (i : Int))] h = some (2, [some (.int .i64 (n : Int))], h) ∧ ∀ j, i ≤ j → j < p + 2 + n → Z[j]? = some (poW (j : Int))) ∨
  (loopL (B61_0 base) [some (.int .i64 (p : Int)), some (.pointer (at0 b)), some (.int .i64 (n : Int)), some (.int .i64 (i : Int))] h = some (1, [some (.int .i64 0), some (.bool false), some (.bool false)], h) ∧ ∃ j, i ≤ j ∧ j < p + 2 + n ∧ Z[j]? ≠ some (poW (j : Int))) := by
 intro r
 induction r with
 | zero =>
  intro i hi
  refine .inl ⟨loop_off (by decide) (Wp.eq ?_), fun j h1 h2 => by omega⟩
  rw [B61_0_eq, w64i (n := (p : Int) + 2) (by omega) (by omega), w64i (n := (p : Int) + 2 + n) (by omega) (by omega)]
  exact W.ifF (by simp; omega) (W.ret rfl)
 | succ r ih =>
  intro i hi
  obtain ⟨ad, v, rfl, e, g⟩ := rdZ hs (j := i) (by omega)
  have step : ∀ {o : Nat × Slots × AH}, (if (v != poW (i : Int)) = true then some (1, [some (.int .i64 0), some (.bool false), some (.bool false)], h) else some (0, [some (.int .i64 (p : Int)), some (.pointer (at0 b)), some (.int .i64 (n : Int)), some (.int .i64 ((i + 1 : Nat) : Int))], h) : Option (Nat × Slots × AH)) = some o → B61_0 base [some (.int .i64 (p : Int)), some (.pointer (at0 b)), some (.int .i64 (n : Int)), some (.int .i64 (i : Int))] h = some o := fun {o} ho => by
   refine Wp.eq ?_
   rw [B61_0_eq, w64i (n := (p : Int) + 2) (by omega) (by omega), w64i (n := (p : Int) + 2 + n) (by omega) (by omega)]
   refine W.ifT (decide_eq_true (by omega)) ?_
   ((try simp only [n1, n2, n3, n4, n5, n6] at d); (with_reducible repeat first | refine W.a1 d ?_ | refine W.a2 ?_ | refine W.a3 ?_ | refine W.bo ?_ | refine W.a5 d fun hw d lw kw => ?_ | refine W.a6 d ?_ | refine W.a7 ?_ | refine W.a8 ?_))
   refine W.bs rfl (W.bI (by rw [Int.toNat_natCast, Nat.mul_one]; exact g) ?_)
   refine W.bs implPoison_run (W.bI rfl ?_)
   rw [gate_pos sameA_refl, gate_pos sameA_refl, w64i (n := (i : Int) + 1) (by omega) (by omega)]
   exact ⟨o, ho, rfl⟩
  by_cases c : v = poW (i : Int)
  ·rw [if_neg (by simp [c])] at step
   have st := step rfl
   rcases ih (i + 1) (by omega) with ⟨x, y⟩ | ⟨x, j, y1, y2, y3⟩
   ·refine .inl ⟨loop_on st x, fun j h1 h2 => ?_⟩
    by_cases ej : j = i
    ·subst ej; rw [e, c]
    ·exact y j (by omega) h2
   ·exact .inr ⟨loop_on st x, j, by omega, y2, y3⟩
  ·rw [if_pos (by simpa using c)] at step
   exact .inr ⟨loop_off (by decide) (step rfl), i, Nat.le_refl _, by omega, by rw [e]; simpa using c⟩
theorem implBk_run {base : Nat} : BkR base 61 := by
 intro h a Z p hs hZ hp hb
 have d := Hs.start hb
 refine W.of (fun r hx => Am.r61 hx) ?_
 ((try simp only [n1, n2, n3, n4, n5, n6] at d); (with_reducible repeat first | refine W.a1 d ?_ | refine W.a2 ?_ | refine W.a3 ?_ | refine W.bo ?_ | refine W.a5 d fun hw d lw kw => ?_ | refine W.a6 d ?_ | refine W.a7 ?_ | refine W.a8 ?_); (refine W.nD d fun h1 d _ kh1 => ?_); (with_reducible repeat first | refine W.a1 d ?_ | refine W.a2 ?_ | refine W.a3 ?_ | refine W.bo ?_ | refine W.a5 d fun hw d lw kw => ?_ | refine W.a6 d ?_ | refine W.a7 ?_ | refine W.a8 ?_))
 have hs := hs.keepN d.kb
 rw [w64i (n := (Z.length : Int) - 4) (by omega) (by omega)]
 refine W.bs in_run (W.bB rfl ?_)
 refine W.ite (fun c => ?_) (fun c => ?_)
 ·refine W.ret ⟨d.kb, .inr ⟨fun n u hk => ?_, rfl⟩⟩
  have h1 := hk.1
  have h2 := hk.2.1
  have : inB (p : Int) 0 ((Z.length : Int) - 4) = true := inB_iff.2 (by omega)
  rw [this] at c
  cases c
 have c0 := inB_iff.1 (show inB (p : Int) 0 ((Z.length : Int) - 4) = true by simpa using c)
 ((try simp only [n1, n2, n3, n4, n5, n6] at d); (with_reducible repeat first | refine W.a1 d ?_ | refine W.a2 ?_ | refine W.a3 ?_ | refine W.bo ?_ | refine W.a5 d fun hw d lw kw => ?_ | refine W.a6 d ?_ | refine W.a7 ?_ | refine W.a8 ?_))
 rw [w64i (n := (p : Int) + 1) (by omega) (by omega)]
 obtain ⟨ad, m, rfl, e1, g1⟩ := rdZ hs (j := p + 1) (by omega)
 refine W.ifT ⟨by omega, by omega⟩ (W.bs rfl (W.bI (by rw [show Int.toNat ((p : Int) + 1) * 1 = p + 1 from by omega]; exact g1) ?_))
 ((try simp only [n1, n2, n3, n4, n5, n6] at d); (with_reducible repeat first | refine W.a1 d ?_ | refine W.a2 ?_ | refine W.a3 ?_ | refine W.bo ?_ | refine W.a5 d fun hw d lw kw => ?_ | refine W.a6 d ?_ | refine W.a7 ?_ | refine W.a8 ?_))
 rw [w64i (n := (Z.length : Int) - p) (by omega) (by omega), w64i (n := (Z.length : Int) - p - 3) (by omega) (by omega)]
 refine W.bs in_run (W.bB rfl ?_)
 refine W.ite (fun c => ?_) (fun c => ?_)
 ·refine W.ret ⟨d.kb, .inr ⟨fun n u hk => ?_, rfl⟩⟩
  have h1 := hk.1
  have h2 := hk.2.1
  have h3 := hk.2.2.1
  rw [e1] at h3
  injection h3 with h3
  have : inB m 1 ((Z.length : Int) - p - 3) = true := inB_iff.2 (by omega)
  rw [this] at c
  cases c
 have c1 := inB_iff.1 (show inB m 1 ((Z.length : Int) - p - 3) = true by simpa using c)
 obtain ⟨n, rfl⟩ : ∃ n : Nat, m = (n : Int) := ⟨m.toNat, by omega⟩
 obtain ⟨_, x, ex, e2, g2⟩ := rdZ hs (j := p) (by omega)
 injection ex with ex
 subst ex
 obtain ⟨_, y, ex, e3, g3⟩ := rdZ hs (j := p + 2 + n) (by omega)
 injection ex with ex
 subst ex
 ((try simp only [n1, n2, n3, n4, n5, n6] at d); (with_reducible repeat first | refine W.a1 d ?_ | refine W.a2 ?_ | refine W.a3 ?_ | refine W.bo ?_ | refine W.a5 d fun hw d lw kw => ?_ | refine W.a6 d ?_ | refine W.a7 ?_ | refine W.a8 ?_))
 refine W.bs rfl (W.bI (by rw [Int.toNat_natCast, Nat.mul_one]; exact g2) ?_)
 ((try simp only [n1, n2, n3, n4, n5, n6] at d); (with_reducible repeat first | refine W.a1 d ?_ | refine W.a2 ?_ | refine W.a3 ?_ | refine W.bo ?_ | refine W.a5 d fun hw d lw kw => ?_ | refine W.a6 d ?_ | refine W.a7 ?_ | refine W.a8 ?_))
 rw [w64i (n := (p : Int) + 2) (by omega) (by omega), w64i (n := (p : Int) + 2 + n) (by omega) (by omega)]
 refine W.ifT ⟨by omega, by omega⟩ (W.bs rfl (W.bI (by rw [show Int.toNat ((p : Int) + 2 + n) * 1 = p + 2 + n from by omega]; exact g3) ?_))
 have key : ∀ n' u', bOk Z p n' u' → n' = n ∧ x = gW p n u' ∧ y = reW p n u' := fun n' u' hk => by
  obtain ⟨_, _, k3, k4, k5, _⟩ := hk
  rw [e1] at k3
  injection k3 with k3
  have : n' = n := by omega
  subst this
  rw [e2] at k4
  rw [e3] at k5
  injection k4 with k4
  injection k5 with k5
  exact ⟨rfl, k4, k5⟩
 refine W.joinP (fun q => q = ([some (.int .i64 (p : Int)), some (.pointer (at0 h.length)), some (.int .i64 (n : Int)), some (.int .i64 x), some (.int .i64 y), some (.bool (x == gW p n true && y == reW p n true))], h1)) ?_ ?_
 ·refine W.bs implGuard_run (W.bI rfl ?_)
  refine W.ite (fun c => ?_) (fun c => ?_)
  ·refine W.bs implRear_run (W.bI rfl ?_)
   rw [c, Bool.true_and]
   exact W.inl rfl
  ·have c : (x == gW p n true) = false := by simpa using c
   rw [c, Bool.false_and]
   exact W.inl rfl
 rintro q rfl
 ((try simp only [n1, n2, n3, n4, n5, n6] at d); (with_reducible repeat first | refine W.a1 d ?_ | refine W.a2 ?_ | refine W.a3 ?_ | refine W.bo ?_ | refine W.a5 d fun hw d lw kw => ?_ | refine W.a6 d ?_ | refine W.a7 ?_ | refine W.a8 ?_))
 refine W.ite (fun cu => ?_) (fun cu => ?_)
 ·rw [Bool.and_eq_true] at cu
  have x1 : x = gW p n true := by simpa using cu.1
  have y1 : y = reW p n true := by simpa using cu.2
  refine W.ret ⟨d.kb, .inl ⟨n, true, ⟨by omega, by omega, e1, by rw [e2, x1], by rw [e3, y1], fun h => (nomatch h)⟩, rfl⟩⟩
 refine W.joinP (fun q => q = ([some (.int .i64 (p : Int)), some (.pointer (at0 h.length)), some (.int .i64 (n : Int)), some (.bool (x != gW p n false || y != reW p n false))], h1)) ?_ ?_
 ·refine W.bs implGuard_run (W.bI rfl ?_)
  refine W.ite (fun c => ?_) (fun c => ?_)
  ·rw [c, Bool.true_or]
   exact W.inl rfl
  ·refine W.bs implRear_run (W.bI rfl ?_)
   have c : (x != gW p n false) = false := by simpa using c
   rw [c, Bool.false_or]
   exact W.inl rfl
 rintro q rfl
 ((try simp only [n1, n2, n3, n4, n5, n6] at d); (with_reducible repeat first | refine W.a1 d ?_ | refine W.a2 ?_ | refine W.a3 ?_ | refine W.bo ?_ | refine W.a5 d fun hw d lw kw => ?_ | refine W.a6 d ?_ | refine W.a7 ?_ | refine W.a8 ?_))
 refine W.ite (fun cf => ?_) (fun cf => ?_)
 ·refine W.ret ⟨d.kb, .inr ⟨fun n' u' hk => ?_, rfl⟩⟩
  obtain ⟨k1, k2, k3⟩ := key n' u' hk
  cases u' with
  | true => rw [k2, k3] at cu; simp at cu
  | false => rw [k2, k3] at cf; simp at cf
 have cf : (x != gW p n false || y != reW p n false) = false := by simpa using cf
 rw [Bool.or_eq_false_iff] at cf
 have x1 : x = gW p n false := by simpa using cf.1
 have y1 : y = reW p n false := by simpa using cf.2
 rw [w64i (n := (p : Int) + 2) (by omega) (by omega)]
 rcases implBk_loop (base := base) d hs hZ (p := p) (n := n) (by omega) n (p + 2) (by omega) with ⟨el, q⟩ | ⟨el, j, j1, j2, j3⟩
 ·refine W.bs el ?_
  refine W.ifF (show ¬ (2 : Nat) = 1 by decide) (W.ifT rfl ?_)
  refine W.bI rfl (W.ret ⟨d.kb, .inl ⟨n, false, ⟨by omega, by omega, e1, by rw [e2, x1], by rw [e3, y1], fun _ i hi => q (p + 2 + i) (by omega) (by omega)⟩, rfl⟩⟩)
 ·refine W.bs el ?_
  refine W.ifT rfl ?_
  ((try simp only [n1, n2, n3, n4, n5, n6] at d); (with_reducible repeat first | refine W.a1 d ?_ | refine W.a2 ?_ | refine W.a3 ?_ | refine W.bo ?_ | refine W.a5 d fun hw d lw kw => ?_ | refine W.a6 d ?_ | refine W.a7 ?_ | refine W.a8 ?_))
  refine W.ret ⟨d.kb, .inr ⟨fun n' u' hk => ?_, rfl⟩⟩
  obtain ⟨k1, k2, k3⟩ := key n' u' hk
  subst k1
  have hu : u' = false := by
   rw [x1] at k2
   exact (gW_ne (by omega) (by omega) k2).symm
  have := hk.2.2.2.2.2 hu (j - (p + 2)) (by omega)
  rw [show p + 2 + (j - (p + 2)) = j from by omega] at this
  exact j3 this
end Go.Proofs.Ytjmkbglnjklbcaa.Am
set_option linter.unusedSimpArgs false
set_option linter.unusedVariables false
namespace Go.Proofs.Ytjmkbglnjklbcaa.Am
open Go Go.RowKit
theorem specBk_loop {base : Nat} {h h0 : AH} {V : Fp} {b : Nat} {a : Option Addr} {Z : List Int} {p n : Nat} {u : Bool} (d : Hs base V h0 h [(b, 91, [.slice a Z.length Z.length])] []) (hs : Sl h a (iv .i64 Z)) (hZ : Z.length ≤ 4000) (hp : p + n + 3 ≤ Z.length) : ∀ (r i : Nat), i + r = p + 2 + n →
  (loopL (B125_0 base) [some (.int .i64 (p : Int)), some (.pointer (at0 b)), some (.int .i64 (n : Int)), some (.bool u), some (.int .i64 (i : Int))] h = some (2, [some (.int .i64 (n : Int)), some (.bool u)], h) ∧ (u = false → ∀ j, i ≤ j → j < p + 2 + n → Z[j]? = some (poW (j : Int)))) ∨
  (loopL (B125_0 base) [some (.int .i64 (p : Int)), some (.pointer (at0 b)), some (.int .i64 (n : Int)), some (.bool u), some (.int .i64 (i : Int))] h = some (1, [some (.int .i64 0), some (.bool false), some (.bool false)], h) ∧ u = false ∧ ∃ j, i ≤ j ∧ j < p + 2 + n ∧ Z[j]? ≠ some (poW (j : Int))) := by
 intro r
 induction r with
 | zero =>
  intro i hi
  refine .inl ⟨loop_off (by decide) (Wp.eq ?_), fun _ j h1 h2 => by omega⟩
  rw [B125_0_eq, w64i (n := (p : Int) + 2) (by omega) (by omega), w64i (n := (p : Int) + 2 + n) (by omega) (by omega)]
  refine W.joinP (fun q => q = ([some (.int .i64 (p : Int)), some (.pointer (at0 b)), some (.int .i64 (n : Int)), some (.bool u), some (.int .i64 (i : Int)), some (.bool false)], h)) (W.ifF (by simp; omega) (W.inl rfl)) ?_
  rintro q rfl
  ((try simp only [n1, n2, n3, n4, n5, n6] at d); (with_reducible repeat first | refine W.a1 d ?_ | refine W.a2 ?_ | refine W.a3 ?_ | refine W.bo ?_ | refine W.a5 d fun hw d lw kw => ?_ | refine W.a6 d ?_ | refine W.a7 ?_ | refine W.a8 ?_))
  exact W.ifF (by decide) (W.ret rfl)
 | succ r ih =>
  intro i hi
  cases u with
  | true =>
   refine .inl ⟨loop_off (by decide) (Wp.eq ?_), fun h => (nomatch h)⟩
   rw [B125_0_eq, w64i (n := (p : Int) + 2) (by omega) (by omega), w64i (n := (p : Int) + 2 + n) (by omega) (by omega)]
   refine W.joinP (fun q => q = ([some (.int .i64 (p : Int)), some (.pointer (at0 b)), some (.int .i64 (n : Int)), some (.bool true), some (.int .i64 (i : Int)), some (.bool false)], h)) (W.ifT (by simp; omega) (W.inl rfl)) ?_
   rintro q rfl
   ((try simp only [n1, n2, n3, n4, n5, n6] at d); (with_reducible repeat first | refine W.a1 d ?_ | refine W.a2 ?_ | refine W.a3 ?_ | refine W.bo ?_ | refine W.a5 d fun hw d lw kw => ?_ | refine W.a6 d ?_ | refine W.a7 ?_ | refine W.a8 ?_))
   exact W.ifF (by decide) (W.ret rfl)
  | false =>
   obtain ⟨ad, v, rfl, e, g⟩ := rdZ hs (j := i) (by omega)
   have step : ∀ {o : Nat × Slots × AH}, (if (v != poW (i : Int)) = true then some (1, [some (.int .i64 0), some (.bool false), some (.bool false)], h) else some (0, [some (.int .i64 (p : Int)), some (.pointer (at0 b)), some (.int .i64 (n : Int)), some (.bool false), some (.int .i64 ((i + 1 : Nat) : Int))], h) : Option (Nat × Slots × AH)) = some o → B125_0 base [some (.int .i64 (p : Int)), some (.pointer (at0 b)), some (.int .i64 (n : Int)), some (.bool false), some (.int .i64 (i : Int))] h = some o := fun {o} ho => by
    refine Wp.eq ?_
    rw [B125_0_eq, w64i (n := (p : Int) + 2) (by omega) (by omega), w64i (n := (p : Int) + 2 + n) (by omega) (by omega)]
    refine W.joinP (fun q => q = ([some (.int .i64 (p : Int)), some (.pointer (at0 b)), some (.int .i64 (n : Int)), some (.bool false), some (.int .i64 (i : Int)), some (.bool true)], h)) (W.ifT (by simp; omega) (W.inl rfl)) ?_
    rintro q rfl
    ((try simp only [n1, n2, n3, n4, n5, n6] at d); (with_reducible repeat first | refine W.a1 d ?_ | refine W.a2 ?_ | refine W.a3 ?_ | refine W.bo ?_ | refine W.a5 d fun hw d lw kw => ?_ | refine W.a6 d ?_ | refine W.a7 ?_ | refine W.a8 ?_))
    refine W.ifT rfl ?_
    ((try simp only [n1, n2, n3, n4, n5, n6] at d); (with_reducible repeat first | refine W.a1 d ?_ | refine W.a2 ?_ | refine W.a3 ?_ | refine W.bo ?_ | refine W.a5 d fun hw d lw kw => ?_ | refine W.a6 d ?_ | refine W.a7 ?_ | refine W.a8 ?_))
    refine W.bs rfl (W.bI (by rw [Int.toNat_natCast, Nat.mul_one]; exact g) ?_)
    refine W.bs specPoison_run (W.bI rfl ?_)
    rw [gate_pos sameA_refl, gate_pos sameA_refl, w64i (n := (i : Int) + 1) (by omega) (by omega)]
    exact ⟨o, ho, rfl⟩
   by_cases c : v = poW (i : Int)
   ·rw [if_neg (by simp [c])] at step
    have st := step rfl
    rcases ih (i + 1) (by omega) with ⟨x, y⟩ | ⟨x, _, j, y1, y2, y3⟩
    ·refine .inl ⟨loop_on st x, fun _ j h1 h2 => ?_⟩
     by_cases ej : j = i
     ·subst ej; rw [e, c]
     ·exact y rfl j (by omega) h2
    ·exact .inr ⟨loop_on st x, rfl, j, by omega, y2, y3⟩
   ·rw [if_pos (by simpa using c)] at step
    exact .inr ⟨loop_off (by decide) (step rfl), rfl, i, Nat.le_refl _, by omega, by rw [e]; simpa using c⟩
theorem specBk_run {base : Nat} : BkR base 125 := by
 intro h a Z p hs hZ hp hb
 have d := Hs.start hb
 refine W.of (fun r hx => Am.r125 hx) ?_
 ((try simp only [n1, n2, n3, n4, n5, n6] at d); (with_reducible repeat first | refine W.a1 d ?_ | refine W.a2 ?_ | refine W.a3 ?_ | refine W.bo ?_ | refine W.a5 d fun hw d lw kw => ?_ | refine W.a6 d ?_ | refine W.a7 ?_ | refine W.a8 ?_); (refine W.nD d fun h1 d _ kh1 => ?_); (with_reducible repeat first | refine W.a1 d ?_ | refine W.a2 ?_ | refine W.a3 ?_ | refine W.bo ?_ | refine W.a5 d fun hw d lw kw => ?_ | refine W.a6 d ?_ | refine W.a7 ?_ | refine W.a8 ?_))
 have hs := hs.keepN d.kb
 have bad : ∀ n u, bOk Z p n u → p + 4 ≤ Z.length := fun n u hk => by have := hk.1; have := hk.2.1; omega
 refine W.joinP (fun q => ∃ x : Bool, q = ([some (.int .i64 (p : Int)), some (.pointer (at0 h.length)), some (.bool x)], h1) ∧ (x = true ↔ ¬ (p + 4 ≤ Z.length))) ?_ ?_
 ·refine W.bs l2In_run (W.bB rfl ?_)
  refine W.ite (fun c => ?_) (fun c => ?_)
  ·refine W.inl ⟨true, rfl, fun _ hh => ?_, fun _ => rfl⟩
   have : inB (p : Int) 0 4000 = true := inB_iff.2 (by omega)
   rw [this] at c
   cases c
  ·((try simp only [n1, n2, n3, n4, n5, n6] at d); (with_reducible repeat first | refine W.a1 d ?_ | refine W.a2 ?_ | refine W.a3 ?_ | refine W.bo ?_ | refine W.a5 d fun hw d lw kw => ?_ | refine W.a6 d ?_ | refine W.a7 ?_ | refine W.a8 ?_))
   rw [w64i (n := (Z.length : Int) - 4) (by omega) (by omega)]
   exact W.inl ⟨_, rfl, by rw [decide_eq_true_iff]; omega⟩
 rintro q ⟨x, rfl, hx⟩
 ((try simp only [n1, n2, n3, n4, n5, n6] at d); (with_reducible repeat first | refine W.a1 d ?_ | refine W.a2 ?_ | refine W.a3 ?_ | refine W.bo ?_ | refine W.a5 d fun hw d lw kw => ?_ | refine W.a6 d ?_ | refine W.a7 ?_ | refine W.a8 ?_))
 refine W.ite (fun c => ?_) (fun c => ?_)
 ·exact W.ret ⟨d.kb, .inr ⟨fun n u hk => hx.1 c (bad n u hk), rfl⟩⟩
 have hp4 : p + 4 ≤ Z.length := Classical.byContradiction fun hh => c (hx.2 hh)
 ((try simp only [n1, n2, n3, n4, n5, n6] at d); (with_reducible repeat first | refine W.a1 d ?_ | refine W.a2 ?_ | refine W.a3 ?_ | refine W.bo ?_ | refine W.a5 d fun hw d lw kw => ?_ | refine W.a6 d ?_ | refine W.a7 ?_ | refine W.a8 ?_))
 rw [w64i (n := (p : Int) + 1) (by omega) (by omega)]
 obtain ⟨ad, m, rfl, e1, g1⟩ := rdZ hs (j := p + 1) (by omega)
 refine W.ifT ⟨by omega, by omega⟩ (W.bs rfl (W.bI (by rw [show Int.toNat ((p : Int) + 1) * 1 = p + 1 from by omega]; exact g1) ?_))
 refine W.joinP (fun q => ∃ x : Bool, q = ([some (.int .i64 (p : Int)), some (.pointer (at0 h.length)), some (.int .i64 m), some (.bool x)], h1) ∧ (x = true ↔ ¬ (1 ≤ m ∧ m ≤ (Z.length : Int) - p - 3))) ?_ ?_
 ·refine W.bs l1In_run (W.bB rfl ?_)
  refine W.ite (fun c => ?_) (fun c => ?_)
  ·refine W.inl ⟨true, rfl, fun _ hh => ?_, fun _ => rfl⟩
   have : inB m 1 4000 = true := inB_iff.2 (by omega)
   rw [this] at c
   cases c
  ·have c := inB_iff.1 (show inB m 1 4000 = true by simpa using c)
   ((try simp only [n1, n2, n3, n4, n5, n6] at d); (with_reducible repeat first | refine W.a1 d ?_ | refine W.a2 ?_ | refine W.a3 ?_ | refine W.bo ?_ | refine W.a5 d fun hw d lw kw => ?_ | refine W.a6 d ?_ | refine W.a7 ?_ | refine W.a8 ?_))
   rw [w64i (n := (Z.length : Int) - p) (by omega) (by omega), w64i (n := (Z.length : Int) - p - 3) (by omega) (by omega)]
   exact W.inl ⟨_, rfl, by rw [decide_eq_true_iff]; omega⟩
 rintro q ⟨x, rfl, hx⟩
 ((try simp only [n1, n2, n3, n4, n5, n6] at d); (with_reducible repeat first | refine W.a1 d ?_ | refine W.a2 ?_ | refine W.a3 ?_ | refine W.bo ?_ | refine W.a5 d fun hw d lw kw => ?_ | refine W.a6 d ?_ | refine W.a7 ?_ | refine W.a8 ?_))
 refine W.ite (fun c => ?_) (fun c => ?_)
 ·refine W.ret ⟨d.kb, .inr ⟨fun n u hk => hx.1 c ?_, rfl⟩⟩
  have h1 := hk.1
  have h2 := hk.2.1
  have h3 := hk.2.2.1
  rw [e1] at h3
  injection h3 with h3
  omega
 have c1 : 1 ≤ m ∧ m ≤ (Z.length : Int) - p - 3 := Classical.byContradiction fun hh => c (hx.2 hh)
 obtain ⟨n, rfl⟩ : ∃ n : Nat, m = (n : Int) := ⟨m.toNat, by omega⟩
 obtain ⟨_, x, ex, e2, g2⟩ := rdZ hs (j := p) (by omega)
 injection ex with ex
 subst ex
 obtain ⟨_, y, ex, e3, g3⟩ := rdZ hs (j := p + 2 + n) (by omega)
 injection ex with ex
 subst ex
 have key : ∀ n' u', bOk Z p n' u' → n' = n ∧ x = gW p n u' ∧ y = reW p n u' := fun n' u' hk => by
  obtain ⟨_, _, k3, k4, k5, _⟩ := hk
  rw [e1] at k3
  injection k3 with k3
  have : n' = n := by omega
  subst this
  rw [e2] at k4
  rw [e3] at k5
  injection k4 with k4
  injection k5 with k5
  exact ⟨rfl, k4, k5⟩
 ((try simp only [n1, n2, n3, n4, n5, n6] at d); (with_reducible repeat first | refine W.a1 d ?_ | refine W.a2 ?_ | refine W.a3 ?_ | refine W.bo ?_ | refine W.a5 d fun hw d lw kw => ?_ | refine W.a6 d ?_ | refine W.a7 ?_ | refine W.a8 ?_))
 refine W.bs rfl (W.bI (by rw [Int.toNat_natCast, Nat.mul_one]; exact g2) ?_)
 refine W.bs specGuard_run (W.bI rfl ?_)
 rw [gate_pos sameA_refl, gate_pos sameA_refl]
 rw [w64i (n := (p : Int) + 2) (by omega) (by omega), w64i (n := (p : Int) + 2 + n) (by omega) (by omega)]
 refine W.joinP (fun q => q = ([some (.int .i64 (p : Int)), some (.pointer (at0 h.length)), some (.int .i64 (n : Int)), some (.bool (x == gW p n true)), some (.bool ((!(x == gW p n true) && x != gW p n false) || y != reW p n (x == gW p n true)))], h1)) ?_ ?_
 ·refine W.ite (fun c => ?_) (fun c => ?_)
  ·((try simp only [n1, n2, n3, n4, n5, n6] at d); (with_reducible repeat first | refine W.a1 d ?_ | refine W.a2 ?_ | refine W.a3 ?_ | refine W.bo ?_ | refine W.a5 d fun hw d lw kw => ?_ | refine W.a6 d ?_ | refine W.a7 ?_ | refine W.a8 ?_))
   refine W.bs rfl (W.bI (by rw [Int.toNat_natCast, Nat.mul_one]; exact g2) ?_)
   refine W.bs specGuard_run (W.bI rfl ?_)
   rw [gate_pos sameA_refl, gate_pos sameA_refl]
   rw [c, Bool.true_and]
   refine W.ite (fun c2 => ?_) (fun c2 => ?_)
   ·rw [c2, Bool.true_or]
    exact W.inl rfl
   ·have c2 : (x != gW p n false) = false := by simpa using c2
    rw [c2, Bool.false_or]
    ((try simp only [n1, n2, n3, n4, n5, n6] at d); (with_reducible repeat first | refine W.a1 d ?_ | refine W.a2 ?_ | refine W.a3 ?_ | refine W.bo ?_ | refine W.a5 d fun hw d lw kw => ?_ | refine W.a6 d ?_ | refine W.a7 ?_ | refine W.a8 ?_))
    refine W.bs rfl (W.bI (by rw [show Int.toNat ((p : Int) + 2 + n) * 1 = p + 2 + n from by omega]; exact g3) ?_)
    refine W.bs specRear_run (W.bI rfl ?_)
    rw [gate_pos sameA_refl, gate_pos sameA_refl]
    exact W.inl rfl
  ·have c : (!(x == gW p n true)) = false := by simpa using c
   rw [c, Bool.false_and, Bool.false_or]
   ((try simp only [n1, n2, n3, n4, n5, n6] at d); (with_reducible repeat first | refine W.a1 d ?_ | refine W.a2 ?_ | refine W.a3 ?_ | refine W.bo ?_ | refine W.a5 d fun hw d lw kw => ?_ | refine W.a6 d ?_ | refine W.a7 ?_ | refine W.a8 ?_))
   refine W.bs rfl (W.bI (by rw [show Int.toNat ((p : Int) + 2 + n) * 1 = p + 2 + n from by omega]; exact g3) ?_)
   refine W.bs specRear_run (W.bI rfl ?_)
   rw [gate_pos sameA_refl, gate_pos sameA_refl]
   exact W.inl rfl
 rintro q rfl
 ((try simp only [n1, n2, n3, n4, n5, n6] at d); (with_reducible repeat first | refine W.a1 d ?_ | refine W.a2 ?_ | refine W.a3 ?_ | refine W.bo ?_ | refine W.a5 d fun hw d lw kw => ?_ | refine W.a6 d ?_ | refine W.a7 ?_ | refine W.a8 ?_))
 refine W.ite (fun cf => ?_) (fun cf => ?_)
 ·refine W.ret ⟨d.kb, .inr ⟨fun n' u' hk => ?_, rfl⟩⟩
  obtain ⟨k1, k2, k3⟩ := key n' u' hk
  have eu : (x == gW p n true) = u' := by
   cases u' with
   | true => rw [k2]; simp
   | false =>
    rw [k2]
    have : gW p n false ≠ gW p n true := fun e => by have := gW_ne (by omega) (by omega) e; cases this
    simpa using this
  rw [eu, k2, k3] at cf
  cases u' <;> simp at cf
 have cf : ((!(x == gW p n true) && x != gW p n false) || y != reW p n (x == gW p n true)) = false := by simpa using cf
 rw [Bool.or_eq_false_iff] at cf
 obtain ⟨cf1, cf2⟩ := cf
 have y1 : y = reW p n (x == gW p n true) := by simpa using cf2
 have x1 : x = gW p n (x == gW p n true) := by
  cases hu : (x == gW p n true) with
  | true => simpa using hu
  | false => rw [hu] at cf1; simpa using cf1
 generalize (x == gW p n true) = u at x1 y1 ⊢
 rw [w64i (n := (p : Int) + 2) (by omega) (by omega)]
 rcases specBk_loop (base := base) (u := u) d hs hZ (p := p) (n := n) (by omega) n (p + 2) (by omega) with ⟨el, q⟩ | ⟨el, hu, j, j1, j2, j3⟩
 ·refine W.bs el ?_
  refine W.ifF (show ¬ (2 : Nat) = 1 by decide) (W.ifT rfl ?_)
  ((try simp only [n1, n2, n3, n4, n5, n6] at d); (with_reducible repeat first | refine W.a1 d ?_ | refine W.a2 ?_ | refine W.a3 ?_ | refine W.bo ?_ | refine W.a5 d fun hw d lw kw => ?_ | refine W.a6 d ?_ | refine W.a7 ?_ | refine W.a8 ?_))
  exact W.ret ⟨d.kb, .inl ⟨n, u, ⟨by omega, by omega, e1, by rw [e2, x1], by rw [e3, y1], fun hu i hi => q hu (p + 2 + i) (by omega) (by omega)⟩, rfl⟩⟩
 ·refine W.bs el ?_
  refine W.ifT rfl ?_
  ((try simp only [n1, n2, n3, n4, n5, n6] at d); (with_reducible repeat first | refine W.a1 d ?_ | refine W.a2 ?_ | refine W.a3 ?_ | refine W.bo ?_ | refine W.a5 d fun hw d lw kw => ?_ | refine W.a6 d ?_ | refine W.a7 ?_ | refine W.a8 ?_))
  refine W.ret ⟨d.kb, .inr ⟨fun n' u' hk => ?_, rfl⟩⟩
  obtain ⟨k1, k2, k3⟩ := key n' u' hk
  subst k1
  have hu' : u' = false := by
   rw [x1, hu] at k2
   exact (gW_ne (by omega) (by omega) k2).symm
  have := hk.2.2.2.2.2 hu' (j - (p + 2)) (by omega)
  rw [show p + 2 + (j - (p + 2)) = j from by omega] at this
  exact j3 this
end Go.Proofs.Ytjmkbglnjklbcaa.Am
set_option linter.unusedSimpArgs false
set_option linter.unusedVariables false
namespace Go.Proofs.Ytjmkbglnjklbcaa.Am
open Go Go.RowKit
abbrev rSl (P : Fp) (a : Option Addr) (Z : List Int) : Rs := ⟨P, false, fun y => Sl y a (iv .i64 Z)⟩
end Go.Proofs.Ytjmkbglnjklbcaa.Am
set_option linter.unusedSimpArgs false
set_option linter.unusedVariables false
namespace Go.Proofs.Ytjmkbglnjklbcaa.Am
open Go Go.RowKit
def AuA (Z : List Int) (p : Nat) (f : Bool) : Prop := ∃ bs, ChS Z p bs Z.length ∧ naf f bs = true
theorem AuA.end_ {Z : List Int} {f : Bool} : AuA Z Z.length f := ⟨[], rfl, rfl⟩
theorem AuA.step {Z : List Int} {p n : Nat} {u f : Bool} (hZ : Z.length ≤ 4000) (h : bOk Z p n u) : AuA Z p f ↔ ((!u && f) = false ∧ AuA Z (p + n + 3) (!u)) := by
 have hp := h.2.1
 constructor
 ·rintro ⟨bs, c, na⟩
  cases bs with
  | nil => simp only [ChS] at c; omega
  | cons b r =>
   obtain ⟨e1, e2⟩ := h.fun_ hZ c.1
   obtain ⟨b1, b2⟩ := b
   simp only at e1 e2
   subst e1; subst e2
   simp only [naf, Bool.and_eq_true] at na
   refine ⟨?_, r, c.2, na.2⟩
   have := na.1
   cases u <;> cases f <;> simp_all
 ·rintro ⟨hf, r, c, na⟩
  refine ⟨(n, u) :: r, ⟨h, c⟩, ?_⟩
  simp only [naf, Bool.and_eq_true]
  refine ⟨?_, na⟩
  cases u <;> cases f <;> simp_all
theorem AuA.no {Z : List Int} {p : Nat} {f : Bool} (hp : p < Z.length) (h : ∀ n u, ¬ bOk Z p n u) : ¬ AuA Z p f := by
 rintro ⟨bs, c, na⟩
 cases bs with
 | nil => simp only [ChS] at c; omega
 | cons b r => exact h _ _ c.1
def AuR (base F : Nat) : Prop := ∀ (h : AH) (a : Option Addr) (Z : List Int), Sl h a (iv .i64 Z) → Z.length ≤ 4000 → base ≤ h.length →
 ∃ (r : Int) (h' : AH), run (Et base) F [.agg #[.slice a Z.length Z.length]] h = some (.int .i64 r, h') ∧ KB NoB h h' ∧ (r = -1 ↔ AuOk Z) ∧ -1 ≤ r
def ArCR (base F : Nat) : Prop := ∀ (h : AH) (a : Option Addr) (Z : List Int), Sl h a (iv .i64 Z) → Z.length ≤ 1048576 → base ≤ h.length →
  ∃ a' h', run (Et base) F [.agg #[.slice a Z.length Z.length]] h = some (.agg #[.slice a' Z.length Z.length], h') ∧ Own base 3 h' a' (iv .i64 Z) ∧ KB NoB h h' ∧ ∀ b, blk a' b → h.length ≤ b
def pls : Nat → List (Nat × Bool) → List Int
 | _, [] => []
 | p, b :: r => (p : Int) :: pls (p + b.1 + 3) r
theorem pls_len : ∀ (bs : List (Nat × Bool)) (p : Nat), (pls p bs).length = bs.length
 | [], p => rfl
 | b :: r, p => by simp only [pls, List.length_cons, pls_len r]
theorem pls_get {b : Nat × Bool} {post : List (Nat × Bool)} : ∀ (pre : List (Nat × Bool)) (p : Nat), (pls p (pre ++ b :: post))[pre.length]? = some ((p + blen pre : Nat) : Int)
 | [], p => by simp [pls, blen]
 | c :: pre, p => by
  simp only [List.cons_append, pls, List.length_cons, List.getElem?_cons_succ, blen]
  rw [pls_get pre, show p + c.1 + 3 + blen pre = p + (c.1 + 3 + blen pre) from by omega]
theorem BkR.at {base F : Nat} (q : BkR base F) {h : AH} {a : Option Addr} {Z : List Int} {p n : Nat} {u : Bool} (hs : Sl h a (iv .i64 Z)) (hZ : Z.length ≤ 4000) (hb : base ≤ h.length) (hk : bOk Z p n u) : ∃ h', run (Et base) F [.agg #[.slice a Z.length Z.length], .int .i64 (p : Int)] h = some (.tuple #[.int .i64 (n : Int), .bool u, .bool true], h') ∧ KB NoB h h' := by
 have := hk.2.1
 obtain ⟨⟨o1, o2⟩, e, k, y⟩ := q h a Z p hs hZ (by omega) hb
 simp only at k y
 rcases y with ⟨n', u', hk', e2⟩ | ⟨hno, _⟩
 ·obtain ⟨e3, e4⟩ := hk.fun_ hZ hk'
  subst e3; subst e4; subst e2
  exact ⟨o2, e, k⟩
 ·exact absurd hk (hno n u)
def BlR (base F : Nat) : Prop := ∀ (h : AH) (a : Option Addr) (Z : List Int) (bs : List (Nat × Bool)), Sl h a (iv .i64 Z) → (∀ b, blk a b → b < h.length) → Z.length ≤ 4000 → ChS Z 0 bs Z.length → base ≤ h.length →
  ∃ a' h', run (Et base) F [.agg #[.slice a Z.length Z.length]] h = some (.slice a' bs.length bs.length, h') ∧ Hs base NoB h h' [] [rW base a' (pls 0 bs)]
theorem ChS.cnt {Z : List Int} : ∀ {bs : List (Nat × Bool)} {p e : Nat}, ChS Z p bs e → p + 4 * bs.length ≤ e
 | [], p, e, h => by simp only [ChS] at h; simp [h]
 | b :: r, p, e, h => by have := ChS.cnt h.2; have := h.1.1; simp only [List.length_cons]; omega
theorem Hs.inpZ {base : Nat} {h : AH} {a : Option Addr} {Z : List Int} (hs : Sl h a (iv .i64 Z)) (hlt : ∀ b, blk a b → b < h.length) (hb : base ≤ h.length) : Hs base NoB h h [] [rSl (blk a) a Z] := by
 have d := (Hs.start hb).inp (blk a) (fun y => Sl y a (iv .i64 Z)) hs (fun U y y' ky hh x => x.keep ky hh) hlt (by simp) rfl
 simpa using d
theorem Hs.nilW {base : Nat} {V : Fp} {h0 h : AH} {D : Ds} {R : List Rs} (d : Hs base V h0 h D R) : Hs base V h0 h D (R ++ [rW base none []]) :=
 d.call (KB.refl _ _) (blk none) (fun y => Own base 3 y none (iv .i64 [])) (.inl ⟨rfl, rfl⟩) (fun U y y' ky hs x => x.keep ky hs) (fun b ⟨ad, e, _⟩ => by cases e)
theorem implAudit_loop {base b : Nat} {h0 : AH} {a : Option Addr} {Z : List Int} (hZ : Z.length ≤ 4000) : ∀ (m p : Nat) (f : Bool) (h : AH), Z.length - p ≤ m → p ≤ Z.length → Hs base NoB h0 h [(b, 91, [.slice a Z.length Z.length])] [] → Sl h a (iv .i64 Z) →
  ∃ o, loopL (B64_0 base) [some (.pointer (at0 b)), some (.bool f), some (.int .i64 (p : Int))] h = some o ∧ KB NoB h o.2.2 ∧ ((o.1 = 2 ∧ o.2.1 = [] ∧ AuA Z p f) ∨ (o.1 = 1 ∧ ∃ r : Int, 0 ≤ r ∧ o.2.1 = [some (.int .i64 r)] ∧ ¬ AuA Z p f)) := by
 intro m
 induction m with
 | zero =>
  intro p f h hm hp d hs
  have hp : p = Z.length := by omega
  subst hp
  refine ⟨(2, [], h), loop_off (by decide) (Wp.eq ?_), KB.refl _ _, .inl ⟨rfl, rfl, AuA.end_⟩⟩
  rw [B64_0_eq]
  ((try simp only [n1, n2, n3, n4, n5, n6] at d); (with_reducible repeat first | refine W.a1 d ?_ | refine W.a2 ?_ | refine W.a3 ?_ | refine W.bo ?_ | refine W.a5 d fun hw d lw kw => ?_ | refine W.a6 d ?_ | refine W.a7 ?_ | refine W.a8 ?_))
  exact W.ifF (by simp) (W.ret rfl)
 | succ m ih =>
  intro p f h hm hp d hs
  by_cases hpe : p = Z.length
  ·subst hpe
   refine ⟨(2, [], h), loop_off (by decide) (Wp.eq ?_), KB.refl _ _, .inl ⟨rfl, rfl, AuA.end_⟩⟩
   rw [B64_0_eq]
   ((try simp only [n1, n2, n3, n4, n5, n6] at d); (with_reducible repeat first | refine W.a1 d ?_ | refine W.a2 ?_ | refine W.a3 ?_ | refine W.bo ?_ | refine W.a5 d fun hw d lw kw => ?_ | refine W.a6 d ?_ | refine W.a7 ?_ | refine W.a8 ?_))
   exact W.ifF (by simp) (W.ret rfl)
  obtain ⟨⟨v, h1⟩, e1, k1, y⟩ := implBk_run (base := base) h a Z p hs hZ (by omega) d.ge
  simp only at k1 y
  rcases y with ⟨n, u, hk, rfl⟩ | ⟨hno, rfl⟩
  ·have hp2 := hk.2.1
   suffices w1 : Wp (B64_0 base [some (.pointer (at0 b)), some (.bool f), some (.int .i64 (p : Int))] h) fun o => (o = (1, [some (.int .i64 (p : Int))], h1) ∧ (!u && f) = true) ∨ (o = (0, [some (.pointer (at0 b)), some (.bool (!u)), some (.int .i64 ((p + n + 3 : Nat) : Int))], h1) ∧ (!u && f) = false) by
    obtain ⟨o, e, y⟩ := w1
    rcases y with ⟨rfl, y⟩ | ⟨rfl, y⟩
    ·exact ⟨_, loop_off (by decide) e, k1, .inr ⟨rfl, p, by omega, rfl, fun ha => by rw [((AuA.step hZ hk).1 ha).1] at y; cases y⟩⟩
    ·obtain ⟨o2, e2, k2, q⟩ := ih (p + n + 3) (!u) h1 (by omega) (by omega) (d.kN k1) (hs.keepN k1)
     refine ⟨o2, loop_on e e2, kN k1 k2, ?_⟩
     rcases q with ⟨q1, q2, q3⟩ | ⟨q1, r, q2, q3, q4⟩
     ·exact .inl ⟨q1, q2, (AuA.step hZ hk).2 ⟨y, q3⟩⟩
     ·exact .inr ⟨q1, r, q2, q3, fun ha => q4 ((AuA.step hZ hk).1 ha).2⟩
   rw [B64_0_eq]
   ((try simp only [n1, n2, n3, n4, n5, n6] at d); (with_reducible repeat first | refine W.a1 d ?_ | refine W.a2 ?_ | refine W.a3 ?_ | refine W.bo ?_ | refine W.a5 d fun hw d lw kw => ?_ | refine W.a6 d ?_ | refine W.a7 ?_ | refine W.a8 ?_))
   refine W.ifT (decide_eq_true (by omega)) ?_
   ((try simp only [n1, n2, n3, n4, n5, n6] at d); (with_reducible repeat first | refine W.a1 d ?_ | refine W.a2 ?_ | refine W.a3 ?_ | refine W.bo ?_ | refine W.a5 d fun hw d lw kw => ?_ | refine W.a6 d ?_ | refine W.a7 ?_ | refine W.a8 ?_))
   refine W.bs e1 ?_
   ((try simp only [n1, n2, n3, n4, n5, n6] at d); (with_reducible repeat first | refine W.a1 d ?_ | refine W.a2 ?_ | refine W.a3 ?_ | refine W.bo ?_ | refine W.a5 d fun hw d lw kw => ?_ | refine W.a6 d ?_ | refine W.a7 ?_ | refine W.a8 ?_))
   refine W.joinP (fun q => q.1 = [some (.pointer (at0 b)), some (.int .i64 (p : Int)), some (.int .i64 (n : Int)), some (.bool u), some (.bool (!u && f))] ∧ q.2 = h1) ?_ ?_
   ·refine W.ifF (by simp) ?_
    refine W.ite (fun cu => ?_) (fun cu => ?_)
    ·have : (!u && f) = f := by rw [show (!u) = true from cu, Bool.true_and]
     exact W.inl ⟨by rw [this], rfl⟩
    ·have : (!u && f) = false := by rw [show (!u) = false from by simpa using cu, Bool.false_and]
     exact W.inl ⟨by rw [this], rfl⟩
   rintro ⟨q1, q2⟩ ⟨y1, y2⟩
   simp only at y1 y2
   subst y1; subst y2
   ((try simp only [n1, n2, n3, n4, n5, n6] at d); (with_reducible repeat first | refine W.a1 d ?_ | refine W.a2 ?_ | refine W.a3 ?_ | refine W.bo ?_ | refine W.a5 d fun hw d lw kw => ?_ | refine W.a6 d ?_ | refine W.a7 ?_ | refine W.a8 ?_))
   refine W.ite (fun c => ?_) (fun c => ?_)
   ·exact W.ret (.inl ⟨rfl, c⟩)
   ·rw [w64i (n := (n : Int) + 3) (by omega) (by omega), w64i (n := (p : Int) + ((n : Int) + 3)) (by omega) (by omega), show (p : Int) + ((n : Int) + 3) = ((p + n + 3 : Nat) : Int) from by omega]
    exact W.ret (.inr ⟨rfl, by simpa using c⟩)
  ·suffices w1 : Wp (B64_0 base [some (.pointer (at0 b)), some (.bool f), some (.int .i64 (p : Int))] h) fun o => o = (1, [some (.int .i64 (p : Int))], h1) by
    obtain ⟨o, e, rfl⟩ := w1
    exact ⟨_, loop_off (by decide) e, k1, .inr ⟨rfl, p, by omega, rfl, AuA.no (by omega) hno⟩⟩
   rw [B64_0_eq]
   ((try simp only [n1, n2, n3, n4, n5, n6] at d); (with_reducible repeat first | refine W.a1 d ?_ | refine W.a2 ?_ | refine W.a3 ?_ | refine W.bo ?_ | refine W.a5 d fun hw d lw kw => ?_ | refine W.a6 d ?_ | refine W.a7 ?_ | refine W.a8 ?_))
   refine W.ifT (decide_eq_true (by omega)) ?_
   ((try simp only [n1, n2, n3, n4, n5, n6] at d); (with_reducible repeat first | refine W.a1 d ?_ | refine W.a2 ?_ | refine W.a3 ?_ | refine W.bo ?_ | refine W.a5 d fun hw d lw kw => ?_ | refine W.a6 d ?_ | refine W.a7 ?_ | refine W.a8 ?_))
   refine W.bs e1 ?_
   ((try simp only [n1, n2, n3, n4, n5, n6] at d); (with_reducible repeat first | refine W.a1 d ?_ | refine W.a2 ?_ | refine W.a3 ?_ | refine W.bo ?_ | refine W.a5 d fun hw d lw kw => ?_ | refine W.a6 d ?_ | refine W.a7 ?_ | refine W.a8 ?_))
   refine W.joinP (fun q => q.1 = [some (.pointer (at0 b)), some (.int .i64 (p : Int)), some (.int .i64 0), some (.bool false), some (.bool true)] ∧ q.2 = h1) (W.ifT rfl (W.inl ⟨rfl, rfl⟩)) ?_
   rintro ⟨q1, q2⟩ ⟨y1, y2⟩
   simp only at y1 y2
   subst y1; subst y2
   ((try simp only [n1, n2, n3, n4, n5, n6] at d); (with_reducible repeat first | refine W.a1 d ?_ | refine W.a2 ?_ | refine W.a3 ?_ | refine W.bo ?_ | refine W.a5 d fun hw d lw kw => ?_ | refine W.a6 d ?_ | refine W.a7 ?_ | refine W.a8 ?_))
   exact W.ifT rfl (W.ret rfl)
theorem implAudit_run {base : Nat} : AuR base 64 := by
 intro h a Z hs hZ hb
 have d := Hs.start hb
 suffices W : Wp (run (Et base) 64 [.agg #[.slice a Z.length Z.length]] h) fun o => ∃ r : Int, o.1 = .int .i64 r ∧ KB NoB h o.2 ∧ (r = -1 ↔ AuOk Z) ∧ -1 ≤ r by
  obtain ⟨⟨o1, o2⟩, e, r, y1, y2⟩ := W
  simp only at y1 y2
  subst y1
  exact ⟨r, o2, e, y2⟩
 refine W.of (fun r hx => Am.r64 hx) ?_
 ((try simp only [n1, n2, n3, n4, n5, n6] at d); (with_reducible repeat first | refine W.a1 d ?_ | refine W.a2 ?_ | refine W.a3 ?_ | refine W.bo ?_ | refine W.a5 d fun hw d lw kw => ?_ | refine W.a6 d ?_ | refine W.a7 ?_ | refine W.a8 ?_); (refine W.nD d fun h1 d _ kh1 => ?_); (with_reducible repeat first | refine W.a1 d ?_ | refine W.a2 ?_ | refine W.a3 ?_ | refine W.bo ?_ | refine W.a5 d fun hw d lw kw => ?_ | refine W.a6 d ?_ | refine W.a7 ?_ | refine W.a8 ?_))
 obtain ⟨⟨o1, o2, o3⟩, e, k, y⟩ := implAudit_loop (base := base) hZ Z.length 0 false h1 (by omega) (by omega) d (hs.keepN d.kb)
 refine W.bs e ?_
 simp only at k y
 rcases y with ⟨rfl, rfl, y⟩ | ⟨rfl, r, hr, rfl, y⟩
 ·refine W.ifF (show ¬ (2 : Nat) = 1 by decide) (W.ifT rfl ?_)
  exact W.ret ⟨-1, rfl, kN d.kb k, ⟨fun _ => y, fun _ => rfl⟩, by omega⟩
 ·refine W.ifT rfl (W.bI rfl ?_)
  exact W.ret ⟨r, rfl, kN d.kb k, ⟨fun e => by omega, fun ha => absurd ha y⟩, by omega⟩
theorem specAudit_loop {base b : Nat} {h0 : AH} {a : Option Addr} {Z : List Int} (hZ : Z.length ≤ 4000) : ∀ (m p : Nat) (f : Bool) (h : AH), Z.length - p ≤ m → p ≤ Z.length → Hs base NoB h0 h [(b, 91, [.slice a Z.length Z.length])] [] → Sl h a (iv .i64 Z) →
  ∃ o, loopL (B123_0 base) [some (.pointer (at0 b)), some (.int .i64 (p : Int)), some (.bool f)] h = some o ∧ KB NoB h o.2.2 ∧ ((o.1 = 2 ∧ o.2.1 = [] ∧ AuA Z p f) ∨ (o.1 = 1 ∧ ∃ r : Int, 0 ≤ r ∧ o.2.1 = [some (.int .i64 r)] ∧ ¬ AuA Z p f)) := by
 intro m
 induction m with
 | zero =>
  intro p f h hm hp d hs
  have hp : p = Z.length := by omega
  subst hp
  refine ⟨(2, [], h), loop_off (by decide) (Wp.eq ?_), KB.refl _ _, .inl ⟨rfl, rfl, AuA.end_⟩⟩
  rw [B123_0_eq]
  ((try simp only [n1, n2, n3, n4, n5, n6] at d); (with_reducible repeat first | refine W.a1 d ?_ | refine W.a2 ?_ | refine W.a3 ?_ | refine W.bo ?_ | refine W.a5 d fun hw d lw kw => ?_ | refine W.a6 d ?_ | refine W.a7 ?_ | refine W.a8 ?_))
  exact W.ifF (by simp) (W.ret rfl)
 | succ m ih =>
  intro p f h hm hp d hs
  by_cases hpe : p = Z.length
  ·subst hpe
   refine ⟨(2, [], h), loop_off (by decide) (Wp.eq ?_), KB.refl _ _, .inl ⟨rfl, rfl, AuA.end_⟩⟩
   rw [B123_0_eq]
   ((try simp only [n1, n2, n3, n4, n5, n6] at d); (with_reducible repeat first | refine W.a1 d ?_ | refine W.a2 ?_ | refine W.a3 ?_ | refine W.bo ?_ | refine W.a5 d fun hw d lw kw => ?_ | refine W.a6 d ?_ | refine W.a7 ?_ | refine W.a8 ?_))
   exact W.ifF (by simp) (W.ret rfl)
  obtain ⟨⟨v, h1⟩, e1, k1, y⟩ := specBk_run (base := base) h a Z p hs hZ (by omega) d.ge
  simp only at k1 y
  rcases y with ⟨n, u, hk, rfl⟩ | ⟨hno, rfl⟩
  ·have hp2 := hk.2.1
   suffices w1 : Wp (B123_0 base [some (.pointer (at0 b)), some (.int .i64 (p : Int)), some (.bool f)] h) fun o => (o = (1, [some (.int .i64 (p : Int))], h1) ∧ (!u && f) = true) ∨ (o = (0, [some (.pointer (at0 b)), some (.int .i64 ((p + n + 3 : Nat) : Int)), some (.bool (!u))], h1) ∧ (!u && f) = false) by
    obtain ⟨o, e, y⟩ := w1
    rcases y with ⟨rfl, y⟩ | ⟨rfl, y⟩
    ·exact ⟨_, loop_off (by decide) e, k1, .inr ⟨rfl, p, by omega, rfl, fun ha => by rw [((AuA.step hZ hk).1 ha).1] at y; cases y⟩⟩
    ·obtain ⟨o2, e2, k2, q⟩ := ih (p + n + 3) (!u) h1 (by omega) (by omega) (d.kN k1) (hs.keepN k1)
     refine ⟨o2, loop_on e e2, kN k1 k2, ?_⟩
     rcases q with ⟨q1, q2, q3⟩ | ⟨q1, r, q2, q3, q4⟩
     ·exact .inl ⟨q1, q2, (AuA.step hZ hk).2 ⟨y, q3⟩⟩
     ·exact .inr ⟨q1, r, q2, q3, fun ha => q4 ((AuA.step hZ hk).1 ha).2⟩
   rw [B123_0_eq]
   ((try simp only [n1, n2, n3, n4, n5, n6] at d); (with_reducible repeat first | refine W.a1 d ?_ | refine W.a2 ?_ | refine W.a3 ?_ | refine W.bo ?_ | refine W.a5 d fun hw d lw kw => ?_ | refine W.a6 d ?_ | refine W.a7 ?_ | refine W.a8 ?_))
   refine W.ifT (decide_eq_true (by omega)) ?_
   ((try simp only [n1, n2, n3, n4, n5, n6] at d); (with_reducible repeat first | refine W.a1 d ?_ | refine W.a2 ?_ | refine W.a3 ?_ | refine W.bo ?_ | refine W.a5 d fun hw d lw kw => ?_ | refine W.a6 d ?_ | refine W.a7 ?_ | refine W.a8 ?_))
   refine W.bs e1 ?_
   ((try simp only [n1, n2, n3, n4, n5, n6] at d); (with_reducible repeat first | refine W.a1 d ?_ | refine W.a2 ?_ | refine W.a3 ?_ | refine W.bo ?_ | refine W.a5 d fun hw d lw kw => ?_ | refine W.a6 d ?_ | refine W.a7 ?_ | refine W.a8 ?_))
   refine W.joinP (fun q => q.1 = [some (.pointer (at0 b)), some (.int .i64 (p : Int)), some (.int .i64 (n : Int)), some (.bool u), some (.bool (!u && f))] ∧ q.2 = h1) ?_ ?_
   ·refine W.ifF (by simp) ?_
    refine W.ite (fun cu => ?_) (fun cu => ?_)
    ·have : (!u && f) = !u := by rw [show f = true from cu, Bool.and_true]
     exact W.inl ⟨by rw [this], rfl⟩
    ·have : (!u && f) = false := by rw [show f = false from by simpa using cu, Bool.and_false]
     exact W.inl ⟨by rw [this], rfl⟩
   rintro ⟨q1, q2⟩ ⟨y1, y2⟩
   simp only at y1 y2
   subst y1; subst y2
   ((try simp only [n1, n2, n3, n4, n5, n6] at d); (with_reducible repeat first | refine W.a1 d ?_ | refine W.a2 ?_ | refine W.a3 ?_ | refine W.bo ?_ | refine W.a5 d fun hw d lw kw => ?_ | refine W.a6 d ?_ | refine W.a7 ?_ | refine W.a8 ?_))
   refine W.ite (fun c => ?_) (fun c => ?_)
   ·exact W.ret (.inl ⟨rfl, c⟩)
   ·rw [w64i (n := (p : Int) + n) (by omega) (by omega), w64i (n := (p : Int) + n + 3) (by omega) (by omega), show (p : Int) + n + 3 = ((p + n + 3 : Nat) : Int) from by omega]
    exact W.ret (.inr ⟨rfl, by simpa using c⟩)
  ·suffices w1 : Wp (B123_0 base [some (.pointer (at0 b)), some (.int .i64 (p : Int)), some (.bool f)] h) fun o => o = (1, [some (.int .i64 (p : Int))], h1) by
    obtain ⟨o, e, rfl⟩ := w1
    exact ⟨_, loop_off (by decide) e, k1, .inr ⟨rfl, p, by omega, rfl, AuA.no (by omega) hno⟩⟩
   rw [B123_0_eq]
   ((try simp only [n1, n2, n3, n4, n5, n6] at d); (with_reducible repeat first | refine W.a1 d ?_ | refine W.a2 ?_ | refine W.a3 ?_ | refine W.bo ?_ | refine W.a5 d fun hw d lw kw => ?_ | refine W.a6 d ?_ | refine W.a7 ?_ | refine W.a8 ?_))
   refine W.ifT (decide_eq_true (by omega)) ?_
   ((try simp only [n1, n2, n3, n4, n5, n6] at d); (with_reducible repeat first | refine W.a1 d ?_ | refine W.a2 ?_ | refine W.a3 ?_ | refine W.bo ?_ | refine W.a5 d fun hw d lw kw => ?_ | refine W.a6 d ?_ | refine W.a7 ?_ | refine W.a8 ?_))
   refine W.bs e1 ?_
   ((try simp only [n1, n2, n3, n4, n5, n6] at d); (with_reducible repeat first | refine W.a1 d ?_ | refine W.a2 ?_ | refine W.a3 ?_ | refine W.bo ?_ | refine W.a5 d fun hw d lw kw => ?_ | refine W.a6 d ?_ | refine W.a7 ?_ | refine W.a8 ?_))
   refine W.joinP (fun q => q.1 = [some (.pointer (at0 b)), some (.int .i64 (p : Int)), some (.int .i64 0), some (.bool false), some (.bool true)] ∧ q.2 = h1) (W.ifT rfl (W.inl ⟨rfl, rfl⟩)) ?_
   rintro ⟨q1, q2⟩ ⟨y1, y2⟩
   simp only at y1 y2
   subst y1; subst y2
   ((try simp only [n1, n2, n3, n4, n5, n6] at d); (with_reducible repeat first | refine W.a1 d ?_ | refine W.a2 ?_ | refine W.a3 ?_ | refine W.bo ?_ | refine W.a5 d fun hw d lw kw => ?_ | refine W.a6 d ?_ | refine W.a7 ?_ | refine W.a8 ?_))
   exact W.ifT rfl (W.ret rfl)
theorem specAudit_run {base : Nat} : AuR base 123 := by
 intro h a Z hs hZ hb
 have d := Hs.start hb
 suffices W : Wp (run (Et base) 123 [.agg #[.slice a Z.length Z.length]] h) fun o => ∃ r : Int, o.1 = .int .i64 r ∧ KB NoB h o.2 ∧ (r = -1 ↔ AuOk Z) ∧ -1 ≤ r by
  obtain ⟨⟨o1, o2⟩, e, r, y1, y2⟩ := W
  simp only at y1 y2
  subst y1
  exact ⟨r, o2, e, y2⟩
 refine W.of (fun r hx => Am.r123 hx) ?_
 ((try simp only [n1, n2, n3, n4, n5, n6] at d); (with_reducible repeat first | refine W.a1 d ?_ | refine W.a2 ?_ | refine W.a3 ?_ | refine W.bo ?_ | refine W.a5 d fun hw d lw kw => ?_ | refine W.a6 d ?_ | refine W.a7 ?_ | refine W.a8 ?_); (refine W.nD d fun h1 d _ kh1 => ?_); (with_reducible repeat first | refine W.a1 d ?_ | refine W.a2 ?_ | refine W.a3 ?_ | refine W.bo ?_ | refine W.a5 d fun hw d lw kw => ?_ | refine W.a6 d ?_ | refine W.a7 ?_ | refine W.a8 ?_))
 obtain ⟨⟨o1, o2, o3⟩, e, k, y⟩ := specAudit_loop (base := base) hZ Z.length 0 false h1 (by omega) (by omega) d (hs.keepN d.kb)
 refine W.bs e ?_
 simp only at k y
 rcases y with ⟨rfl, rfl, y⟩ | ⟨rfl, r, hr, rfl, y⟩
 ·refine W.ifF (show ¬ (2 : Nat) = 1 by decide) (W.ifT rfl ?_)
  exact W.ret ⟨-1, rfl, kN d.kb k, ⟨fun _ => y, fun _ => rfl⟩, by omega⟩
 ·refine W.ifT rfl (W.bI rfl ?_)
  exact W.ret ⟨r, rfl, kN d.kb k, ⟨fun e => by omega, fun ha => absurd ha y⟩, by omega⟩
theorem implArC_run {base : Nat} : ArCR base 118 := by
 intro h a Z hs hZ hb
 have d := Hs.start hb
 suffices W : Wp (run (Et base) 118 [.agg #[.slice a Z.length Z.length]] h) fun o => ∃ a', o.1 = .agg #[.slice a' Z.length Z.length] ∧ Hs base NoB h o.2 [] [rW base a' Z] by
  obtain ⟨⟨o1, o2⟩, e, a', y1, d⟩ := W
  simp only at y1 d
  subst y1
  exact ⟨a', o2, e, d.rs (i := 0) rfl, d.kb, fun b hb => (d.rfr (i := 0) rfl rfl b hb).resolve_left fun h => h⟩
 refine W.of (fun r hx => Am.r118 hx) ?_
 ((try simp only [n1, n2, n3, n4, n5, n6] at d); (with_reducible repeat first | refine W.a1 d ?_ | refine W.a2 ?_ | refine W.a3 ?_ | refine W.bo ?_ | refine W.a5 d fun hw d lw kw => ?_ | refine W.a6 d ?_ | refine W.a7 ?_ | refine W.a8 ?_); (refine W.nD d fun h1 d _ kh1 => ?_); (with_reducible repeat first | refine W.a1 d ?_ | refine W.a2 ?_ | refine W.a3 ?_ | refine W.bo ?_ | refine W.a5 d fun hw d lw kw => ?_ | refine W.a6 d ?_ | refine W.a7 ?_ | refine W.a8 ?_); (refine W.nD d fun h2 d _ kh2 => ?_); (with_reducible repeat first | refine W.a1 d ?_ | refine W.a2 ?_ | refine W.a3 ?_ | refine W.bo ?_ | refine W.a5 d fun hw d lw kw => ?_ | refine W.a6 d ?_ | refine W.a7 ?_ | refine W.a8 ?_))
 obtain ⟨a4, h4, e4, o4, k4, f4⟩ := copyIntsO_run (base := base) (hs.keepN d.kb) (by omega) d.ge
 refine W.bs e4 ?_
 have d := d.call k4 (blk a4) (fun y => Own base 3 y a4 (iv .i64 Z)) o4 (fun U y y' k hs x => x.keep k hs) (fun i hi => ⟨f4 i hi, (o4.lt hi).2⟩)
 ((try simp only [n1, n2, n3, n4, n5, n6] at d); (with_reducible repeat first | refine W.a1 d ?_ | refine W.a2 ?_ | refine W.a3 ?_ | refine W.bo ?_ | refine W.a5 d fun hw d lw kw => ?_ | refine W.a6 d ?_ | refine W.a7 ?_ | refine W.a8 ?_))
 exact W.ret ⟨a4, rfl, d.takeD 0⟩
theorem specArC_run {base : Nat} : ArCR base 122 := by
 intro h a Z hs hZ hb
 have d := Hs.start hb
 suffices W : Wp (run (Et base) 122 [.agg #[.slice a Z.length Z.length]] h) fun o => ∃ a', o.1 = .agg #[.slice a' Z.length Z.length] ∧ Hs base NoB h o.2 [] [rW base a' Z] by
  obtain ⟨⟨o1, o2⟩, e, a', y1, d⟩ := W
  simp only at y1 d
  subst y1
  exact ⟨a', o2, e, d.rs (i := 0) rfl, d.kb, fun b hb => (d.rfr (i := 0) rfl rfl b hb).resolve_left fun h => h⟩
 refine W.of (fun r hx => Am.r122 hx) ?_
 ((try simp only [n1, n2, n3, n4, n5, n6] at d); (with_reducible repeat first | refine W.a1 d ?_ | refine W.a2 ?_ | refine W.a3 ?_ | refine W.bo ?_ | refine W.a5 d fun hw d lw kw => ?_ | refine W.a6 d ?_ | refine W.a7 ?_ | refine W.a8 ?_); (refine W.nD d fun h1 d _ kh1 => ?_); (with_reducible repeat first | refine W.a1 d ?_ | refine W.a2 ?_ | refine W.a3 ?_ | refine W.bo ?_ | refine W.a5 d fun hw d lw kw => ?_ | refine W.a6 d ?_ | refine W.a7 ?_ | refine W.a8 ?_); (refine W.nD d fun h2 d _ kh2 => ?_); (with_reducible repeat first | refine W.a1 d ?_ | refine W.a2 ?_ | refine W.a3 ?_ | refine W.bo ?_ | refine W.a5 d fun hw d lw kw => ?_ | refine W.a6 d ?_ | refine W.a7 ?_ | refine W.a8 ?_); (refine W.nD d fun h3 d _ kh3 => ?_); (with_reducible repeat first | refine W.a1 d ?_ | refine W.a2 ?_ | refine W.a3 ?_ | refine W.bo ?_ | refine W.a5 d fun hw d lw kw => ?_ | refine W.a6 d ?_ | refine W.a7 ?_ | refine W.a8 ?_))
 obtain ⟨a2, h4, e4, d⟩ := d.copyG (t := 3) (bytes := 8) (m := Z.length) (raw_ivs (hs.keepN d.kb)) (by simp) (by omega) (by omega)
 refine W.bs e4 ?_
 ((try simp only [n1, n2, n3, n4, n5, n6] at d); (with_reducible repeat first | refine W.a1 d ?_ | refine W.a2 ?_ | refine W.a3 ?_ | refine W.bo ?_ | refine W.a5 d fun hw d lw kw => ?_ | refine W.a6 d ?_ | refine W.a7 ?_ | refine W.a8 ?_))
 exact W.ret ⟨a2, rfl, d.takeD 0⟩
end Go.Proofs.Ytjmkbglnjklbcaa.Am
set_option linter.unusedSimpArgs false
set_option linter.unusedVariables false
namespace Go.Proofs.Ytjmkbglnjklbcaa.Am
open Go Go.RowKit
end Go.Proofs.Ytjmkbglnjklbcaa.Am
set_option linter.unusedSimpArgs false
set_option linter.unusedVariables false
namespace Go.Proofs.Ytjmkbglnjklbcaa.Am
open Go Go.RowKit
theorem spl_set {o s : List Int} {p i : Nat} {v : Int} (h1 : i < p) (h2 : p + s.length ≤ o.length) : (spl o p s).set i v = spl (o.set i v) p s := by
 rw [spl_one (by rw [spl_len h2]; omega), spl_one (by omega)]
 exact (spl_com (p := i) (s := [v]) (by simp only [List.length_singleton]; omega) h2).symm
end Go.Proofs.Ytjmkbglnjklbcaa.Am
set_option linter.unusedSimpArgs false
set_option linter.unusedVariables false
namespace Go.Proofs.Ytjmkbglnjklbcaa.Am
open Go Go.RowKit
theorem Hs.freeze {base : Nat} {V : Fp} {h0 h : AH} {D : Ds} {R : List Rs} {r : Rs} (d : Hs base V h0 h D (r :: R)) : Hs base V h0 h D (⟨r.S, false, r.A⟩ :: R) := by
 refine ⟨d.ge, d.kb, d.own, d.nd, fun s hs => ?_, ?_⟩
 ·rcases List.mem_cons.1 hs with rfl | hs
  ·obtain ⟨a, b, c, _, e⟩ := d.res r (.head _)
   exact ⟨a, b, c, fun h => (nomatch h), e⟩
  ·exact d.res s (.tail _ hs)
 ·have dj := d.dj
  rw [List.pairwise_cons] at dj ⊢
  refine ⟨fun s hs e => ?_, dj.2⟩
  simp only [Bool.false_or] at e
  exact dj.1 s hs (by rw [e]; simp)
theorem Hs.asSl {base : Nat} {V : Fp} {h0 h : AH} {D : Ds} {R : List Rs} {a : Option Addr} {l : List Int} (d : Hs base V h0 h D (rW base a l :: R)) : Hs base V h0 h D (rSl (blk a) a l :: R) := by
 have d := d.freeze
 refine ⟨d.ge, d.kb, d.own, d.nd, fun s hs => ?_, ?_⟩
 ·rcases List.mem_cons.1 hs with rfl | hs
  ·obtain ⟨x, _, c, m, e⟩ := d.res _ (.head _)
   exact ⟨Own.sl x, fun U y y' k hs z => z.keep k hs, c, m, e⟩
  ·exact d.res s (.tail _ hs)
 ·have dj := d.dj
  rw [List.pairwise_cons] at dj ⊢
  exact dj
theorem Del.last {α : Type} {x : α} : ∀ (l : List α), Del (l ++ [x]) x l
 | [] => .here
 | y :: l => .there (Del.last l)
theorem Hs.asW {base b : Nat} {V : Fp} {h0 h : AH} {D D' : Ds} {R : List Rs} {l : List Int} (d : Hs base V h0 h D R) (u : Del D (b, 3, iv .i64 l) D') : Hs base V h0 h D' (rW base (at0 b) l :: R) := by
 have d := (d.unbox u).frontR (Del.last R)
 refine ⟨d.ge, d.kb, d.own, d.nd, fun s hs => ?_, ?_⟩
 ·rcases List.mem_cons.1 hs with rfl | hs
  ·obtain ⟨x, _, c, m, e⟩ := d.res _ (.head _)
   exact ⟨x, fun U y y' k hs z => z.keep k hs, fun i hi => c i (blk_at0.1 hi), fun _ i hi => m rfl i (blk_at0.1 hi), fun y hy hi => e y hy (blk_at0.1 hi)⟩
  ·exact d.res s (.tail _ hs)
 ·have dj := d.dj
  rw [List.pairwise_cons] at dj ⊢
  exact ⟨fun s hs e i hi => dj.1 s hs e i (blk_at0.1 hi), dj.2⟩
end Go.Proofs.Ytjmkbglnjklbcaa.Am
