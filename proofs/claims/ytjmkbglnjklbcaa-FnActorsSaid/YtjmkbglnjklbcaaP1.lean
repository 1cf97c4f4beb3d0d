/- What the functions of this law compute, lemma by lemma, up to the law.
Conditions: none. -/
import Derived.Test.YtjmkbglnjklbcaaMd
import Derived.Test.YtjmkbglnjklbcaaEq1
import Derived.Test.YtjmkbglnjklbcaaEq2
import Derived.Test.YtjmkbglnjklbcaaEq3
import Derived.DataShut
import Derived.IntWalk
import Derived.Laws.BitsLemmas

set_option linter.unusedSimpArgs false
set_option linter.unusedVariables false
namespace Go.Proofs.Ytjmkbglnjklbcaa.Am
open Go Go.RowKit
theorem w64i {n : Int} (h0 : -9223372036854775808 ≤ n) (h1 : n ≤ 9223372036854775807) : IntKind.i64.wrap n = n := IntWalk.i64_in n ⟨h0, h1⟩
theorem lets {α β : Type} {x : α} {f : α → Option β} {r : Option β} (h : ∀ y, y = x → f y = r) : (some x).bind f = r := h x rfl
abbrev at0 (b : Nat) : Option Addr := some ⟨b, 0, none⟩
theorem blk_at0 {b x : Nat} : blk (at0 b) x ↔ x = b := ⟨fun ⟨ad, e, h⟩ => by injection e with e; subst e; exact h.symm, fun e => ⟨_, rfl, e.symm⟩⟩
theorem box_own {base t : Nat} {h h1 : AH} {cs : List Value} (hb : base ≤ h.length) (e : h1 = h ++ [some ⟨cs, t⟩]) : Own base t h1 (at0 h.length) cs ∧ KB NoB h h1 ∧ h1.length = h.length + 1 := by
 subst e
 exact ⟨Own.new base t h cs hb, KB.push _ _ _, by simp⟩
theorem Own.at0 {base t : Nat} {h : AH} {b : Nat} {vs : List Value} (x : Own base t h (at0 b) vs) {i : Nat} {v : Value} (hi : vs[i]? = some v) : Am.cell h b i = some v := by
 obtain ⟨ad, e, hc⟩ := x.sl.cell hi
 injection e with e
 subst e
 simpa using hc
theorem Own.wr0 {base t : Nat} {h : AH} {b : Nat} {vs : List Value} (x : Own base t h (Am.at0 b) vs) {i : Nat} {new : List Value} (hi : i + new.length ≤ vs.length) (h0 : 0 < new.length) :
  ∃ h', Am.wr base h b i new = some h' ∧ Own base t h' (Am.at0 b) (setAt vs i new) ∧ KB (· = b) h h' ∧ h'.length = h.length := by
 obtain ⟨ad, h', e, h1, h2, h3, h4⟩ := x.wr hi h0
 injection e with e
 subst e
 refine ⟨h', by simpa using h1, h2, h3.mono fun i _ hb => blk_at0.1 hb, h4⟩
theorem Own.keepN {base t : Nat} {h h' : AH} {a : Option Addr} {vs : List Value} (x : Own base t h a vs) (k : KB NoB h h') : Own base t h' a vs := x.keep k fun _ _ h => h.elim
theorem Sl.keepN {h h' : AH} {a : Option Addr} {vs : List Value} (x : Sl h a vs) (k : KB NoB h h') : Sl h' a vs := x.keep k fun _ _ h => h.elim
theorem Own.keepB {base t b : Nat} {h h' : AH} {a : Option Addr} {vs : List Value} (x : Own base t h a vs) (k : KB (· = b) h h') (hb : ∀ i, blk a i → i ≠ b) : Own base t h' a vs := x.keep k fun i h1 h2 => hb i h1 h2
theorem Sl.keepB {b : Nat} {h0 h h' : AH} {a : Option Addr} {vs : List Value} (x : Sl h a vs) (k : KB (· = b) h h') (hb : vs = [] ∨ ∀ i, blk a i → i ≠ b) : Sl h' a vs := by
 rcases hb with e | hb
 ·exact .inl e
 ·exact x.keep k fun i h1 h2 => hb i h1 h2
theorem sl_below {h : AH} {a : Option Addr} {vs : List Value} (x : Sl h a vs) : vs = [] ∨ ∀ i, blk a i → i < h.length := by
 by_cases e : vs = []
 ·exact .inl e
 ·exact .inr fun i hi => by
   rcases x with h | ⟨ad, k, h1, h2, _⟩
   ·exact absurd h e
   ·obtain ⟨ad', e1, e2⟩ := hi
    rw [h1] at e1
    injection e1 with e1
    subst e1; subst e2
    exact hget_lt h2
theorem gate_pos {R : Type} {p : Prop} {x : Option R} (h : p) : gate p x = x := by unfold gate; rw [if_pos h]
theorem bs {α β : Type} {x : Option α} {v : α} (h : x = some v) {f : α → Option β} {r : Option β} (hf : f v = r) : x.bind f = r := by rw [h]; exact hf
theorem ifF {β : Type} {c : Prop} [Decidable c] {a b r : Option β} (h : ¬ c) (hb : b = r) : (if c then a else b) = r := by rw [if_neg h]; exact hb
theorem ifT {β : Type} {c : Prop} [Decidable c] {a b r : Option β} (h : c) (ha : a = r) : (if c then a else b) = r := by rw [if_pos h]; exact ha
theorem jn {T β : Type} {q : T} {k : T → Option β} {r : Option β} (h : k q = r) : joinK (Sum.inl q : Sum T β) k = r := h
theorem bI {β : Type} {k : IntKind} {n : Int} {x : Option Value} (h : x = some (.int k n)) {f : Int → Option β} {r : Option β} (hf : f n = r) : (x.bind (getI k)).bind f = r := by subst h; simpa [getI] using hf
theorem bS {β : Type} {a : Option Addr} {n c : Nat} {x : Option Value} (h : x = some (.slice a n c)) {f : Option Addr × Nat → Option β} {r : Option β} (hf : f (a, n) = r) : (x.bind getS).bind f = r := by subst h; exact hf
theorem bT {β : Type} {s : ByteArray} {x : Option Value} (h : x = some (.string s)) {f : ByteArray → Option β} {r : Option β} (hf : f s = r) : (x.bind getStr).bind f = r := by subst h; exact hf
theorem bB {β : Type} {b : Bool} {x : Option Value} (h : x = some (.bool b)) {f : Bool → Option β} {r : Option β} (hf : f b = r) : (x.bind getB).bind f = r := by subst h; exact hf
theorem nw {base t : Nat} {h : AH} {zs cs : List Value} {β : Type} {f : AH → Option β} {z : Option β} (hb : base ≤ h.length) (hl : cs.length = zs.length) (hf : ∀ y, y = h ++ [some ⟨cs, t⟩] → f y = z) :
  ((some (h ++ [some ⟨zs, t⟩])).bind fun x => (Am.wr base x h.length 0 cs).bind f) = z := by
 have : Am.wr base (h ++ [some ⟨zs, t⟩]) h.length 0 cs = some (h ++ [some ⟨cs, t⟩]) := by
  unfold Am.wr
  rw [if_pos hb, hget_append_new]
  simp only [Option.bind_some]
  rw [if_pos (by simp; omega)]
  have e : setAt zs 0 cs = cs := by unfold setAt; simp [hl]
  rw [e]
  congr 1
  simp [List.set_append]
 simp only [Option.bind_some]
 rw [this]
 exact hf _ rfl
theorem bj {T β : Type} {x : Option (Sum T β)} {k : T → Option β} {r : Option β} (q : T) (h : x = some (.inl q)) (hf : k q = r) : (x.bind fun j => joinK j k) = r := by rw [h]; exact hf
theorem loop_on {b : Body} {s s' : Slots} {h h' : AH} {r : Option (Nat × Slots × AH)} (hb : b s h = some (0, s', h')) (hr : loopL b s' h' = r) : loopL b s h = r := by
 rw [loopL_eq, hb]
 exact hr
theorem loop_off {b : Body} {s s' : Slots} {h h' : AH} {e : Nat} (he : e ≠ 0) (hb : b s h = some (e, s', h')) : loopL b s h = some (e, s', h') := by
 rw [loopL_eq, hb]
 simp only [Option.bind_some]
 rw [if_neg he]
theorem raw_new {h : AH} {cs : List Value} {t : Nat} (hl : cs.all leaf = true) (hn : cs ≠ []) : rawAt (h ++ [some ⟨cs, t⟩]) (some ⟨h.length, 0, none⟩) cs.length = some cs := by
 have hp : cs.length ≠ 0 := fun e => hn (List.eq_nil_of_length_eq_zero e)
 unfold rawAt
 rw [if_neg hp]
 simp only [Option.bind_some, hget_append_new]
 rw [if_pos ⟨by simp, by simpa using hl⟩]
 simp
theorem kN {a b c : AH} (x : KB NoB a b) (y : KB NoB b c) : KB NoB a c := KB.trans x y (fun _ _ h => h) (fun _ _ h => h)
theorem kNB {S : Nat → Prop} {a b c : AH} (x : KB NoB a b) (y : KB S b c) : KB S a c := KB.trans x y (fun _ _ h => h.elim) (fun _ _ h => h)
theorem kFresh {S : Nat → Prop} {a b c : AH} (x : KB NoB a b) (y : KB S b c) (hS : ∀ i, S i → a.length ≤ i) : KB NoB a c := KB.trans x y (fun _ _ h => h) (fun i hi hs => by have := hS i hs; omega)
theorem app1 {base t bytes : Nat} {h : AH} {a : Option Addr} {olds cs : List Value} {n sz : Nat} (x : Own base t h a olds) (hn : olds.length = n * sz) (hc : cs.length = sz) (hsz : 0 < sz) (hlf : cs.all leaf = true) (hb : base ≤ h.length) (h1 : (n + 1) * bytes ≤ 140737488355328) (h2 : n + 1 ≤ 9223372036854775807) :
  ∃ a' h', Am.app base (h ++ [some ⟨cs, t⟩]) t sz bytes a n (rawAt (h ++ [some ⟨cs, t⟩]) (some ⟨h.length, 0, none⟩) (1 * sz)) 1 = some (.slice a' (n + 1) (n + 1), h') ∧ Own base t h' a' (olds ++ cs) ∧ KB (blk a) h h' ∧ (∀ b, blk a' b → b = h.length + 1) ∧ h.length + 1 ≤ h'.length := by
 have hr : rawAt (h ++ [some ⟨cs, t⟩]) (some ⟨h.length, 0, none⟩) (1 * sz) = some cs := by
  rw [Nat.one_mul, ← hc]
  exact raw_new hlf (by intro e; rw [e] at hc; simp at hc; omega)
 obtain ⟨a', h', e, o, k, d⟩ := Own.app (x.keepN (KB.push NoB h (some ⟨cs, t⟩))) (n := n) (m := 1) (sz := sz) (bytes := bytes) hn hsz hr (by simp; omega) h1 h2 (by omega)
 refine ⟨a', h', e, o, kNB (KB.push NoB _ _) k, ?_, by have := k.1; simp at this; omega⟩
 rcases d with ⟨h0, _⟩ | d
 ·exact absurd h0 (by decide)
 ·intro b hb'
  have := d b hb'
  simpa using this
theorem same_keep {h h' : AH} (kk : KB NoB h h') {b i n : Nat} {v : Value} (g : Am.cell h b i = some v) : sameA h h' (some ⟨b, i, none⟩) n := by
 intro x hx
 injection hx with hx
 subst hx
 have hbl : b < h.length := by
  have := g
  unfold Am.cell at this
  cases hg : hget h b with
  | none => rw [hg] at this; cases this
  | some b => exact hget_lt hg
 have e := kk.2 b hbl (fun h => h)
 exact ⟨fun j _ => by unfold Am.cell; rw [e], by rw [e]⟩
theorem wu8 {n : Int} (h0 : 0 ≤ n) (h1 : n ≤ 255) : IntKind.u8.wrap n = n := IntWalk.u8_in n ⟨h0, h1⟩
end Go.Proofs.Ytjmkbglnjklbcaa.Am
set_option linter.unusedSimpArgs false
set_option linter.unusedVariables false
namespace Go.Proofs.Ytjmkbglnjklbcaa.Am
open Go Go.RowKit
def Wp {β : Type} (o : Option β) (Q : β → Prop) : Prop := ∃ r, o = some r ∧ Q r
namespace W
variable {α β γ : Type} {Q : β → Prop}
theorem of {F R : Option β} (h : ∀ r, F = some r → R = some r) (w : Wp F Q) : Wp R Q := by
 obtain ⟨r, e, q⟩ := w
 exact ⟨r, h r e, q⟩
theorem ret {v : β} (q : Q v) : Wp (some v) Q := ⟨v, rfl, q⟩
theorem imp {o : Option β} {Q' : β → Prop} (h : ∀ r, Q r → Q' r) (w : Wp o Q) : Wp o Q' := by
 obtain ⟨r, e, q⟩ := w
 exact ⟨r, e, h r q⟩
theorem bs {x : Option α} {v : α} (h : x = some v) {f : α → Option β} (w : Wp (f v) Q) : Wp (x.bind f) Q := by rw [h]; exact w
theorem wb {x : Option α} {P : α → Prop} (h : Wp x P) {f : α → Option β} (w : ∀ v, P v → Wp (f v) Q) : Wp (x.bind f) Q := by
 obtain ⟨v, e, p⟩ := h
 rw [e]
 exact w v p
theorem bI {k : IntKind} {n : Int} {x : Option Value} (h : x = some (.int k n)) {f : Int → Option β} (w : Wp (f n) Q) : Wp ((x.bind (getI k)).bind f) Q := by subst h; simpa [getI] using w
theorem bS {a : Option Addr} {n c : Nat} {x : Option Value} (h : x = some (.slice a n c)) {f : Option Addr × Nat → Option β} (w : Wp (f (a, n)) Q) : Wp ((x.bind getS).bind f) Q := by subst h; exact w
theorem bT {s : ByteArray} {x : Option Value} (h : x = some (.string s)) {f : ByteArray → Option β} (w : Wp (f s) Q) : Wp ((x.bind getStr).bind f) Q := by subst h; exact w
theorem bB {b : Bool} {x : Option Value} (h : x = some (.bool b)) {f : Bool → Option β} (w : Wp (f b) Q) : Wp ((x.bind getB).bind f) Q := by subst h; exact w
theorem bA {a : Addr} {x : Option Value} (h : x = some (.pointer (some a))) {f : Addr → Option β} (w : Wp (f a) Q) : Wp ((x.bind getA).bind f) Q := by subst h; exact w
theorem ifT {c : Prop} [Decidable c] {a b : Option β} (h : c) (w : Wp a Q) : Wp (if c then a else b) Q := by rw [if_pos h]; exact w
theorem ifF {c : Prop} [Decidable c] {a b : Option β} (h : ¬ c) (w : Wp b Q) : Wp (if c then a else b) Q := by rw [if_neg h]; exact w
theorem ite {c : Prop} [Decidable c] {a b : Option β} (h1 : c → Wp a Q) (h2 : ¬ c → Wp b Q) : Wp (if c then a else b) Q := by
 by_cases h : c
 ·rw [if_pos h]; exact h1 h
 ·rw [if_neg h]; exact h2 h
theorem gt {p : Prop} {x : Option β} (h : p) (w : Wp x Q) : Wp (gate p x) Q := by rw [gate_pos h]; exact w
theorem mp {x : Option β} {P : Sum γ β → Prop} (w : Wp x fun r => P (.inr r)) : Wp (x.map Sum.inr) P := by
 obtain ⟨r, e, q⟩ := w
 exact ⟨.inr r, by rw [e]; rfl, q⟩
theorem join {x : Option (Sum γ β)} {k : γ → Option β} (w : Wp x (Sum.elim (fun q => Wp (k q) Q) Q)) : Wp (x.bind fun j => joinK j k) Q := by
 obtain ⟨r, e, q⟩ := w
 rw [e]
 cases r with
 | inl r => exact q
 | inr r => exact ⟨r, rfl, q⟩
theorem joinP (P : γ → Prop) {x : Option (Sum γ β)} {k : γ → Option β} (w : Wp x (Sum.elim P Q)) (h : ∀ q, P q → Wp (k q) Q) : Wp (x.bind fun j => joinK j k) Q := by
 obtain ⟨r, e, q⟩ := w
 rw [e]
 cases r with
 | inl r => exact h r q
 | inr r => exact ⟨r, rfl, q⟩
theorem inl {P : γ → Prop} {v : γ} (q : P v) : Wp (some (Sum.inl v : Sum γ β)) (Sum.elim P Q) := ⟨_, rfl, q⟩
theorem inr {P : γ → Prop} {v : β} (q : Q v) : Wp (some (Sum.inr v : Sum γ β)) (Sum.elim P Q) := ⟨_, rfl, q⟩
theorem box {base t : Nat} {h : AH} {cs : List Value} {f : AH → Option β} (hb : base ≤ h.length) (w : ∀ h1, Own base t h1 (at0 h.length) cs → KB NoB h h1 → h1.length = h.length + 1 → Wp (f h1) Q) : Wp ((some (h ++ [some ⟨cs, t⟩])).bind f) Q := by
 obtain ⟨o1, k1, q1⟩ := box_own (base := base) (t := t) (h := h) (cs := cs) hb rfl
 exact w _ o1 k1 q1
theorem nw {base t : Nat} {h : AH} {zs cs : List Value} {f : AH → Option β} (hb : base ≤ h.length) (hl : cs.length = zs.length) (w : ∀ h1, Own base t h1 (at0 h.length) cs → KB NoB h h1 → h1.length = h.length + 1 → Wp (f h1) Q) :
  Wp ((some (h ++ [some ⟨zs, t⟩])).bind fun x => (Am.wr base x h.length 0 cs).bind f) Q := by
 obtain ⟨o1, k1, q1⟩ := box_own (base := base) (t := t) (h := h) (cs := cs) hb rfl
 obtain ⟨r, e, q⟩ := w _ o1 k1 q1
 exact ⟨r, Am.nw hb hl fun y ey => by rw [ey]; exact e, q⟩
theorem wr0 {base t b i : Nat} {h : AH} {vs new : List Value} {f : AH → Option β} (o : Own base t h (at0 b) vs) (hi : i + new.length ≤ vs.length) (h0 : 0 < new.length) (w : ∀ h1, Own base t h1 (at0 b) (setAt vs i new) → KB (· = b) h h1 → h1.length = h.length → Wp (f h1) Q) : Wp ((Am.wr base h b i new).bind f) Q := by
 obtain ⟨h1, e, o1, k1, l1⟩ := o.wr0 hi h0
 rw [e]
 exact w h1 o1 k1 l1
theorem call {x : Option (Value × AH)} {v : Value} {P : AH → Prop} {f : Value × AH → Option β} (h : ∃ h', x = some (v, h') ∧ P h') (w : ∀ h', P h' → Wp (f (v, h')) Q) : Wp (x.bind f) Q := by
 obtain ⟨h', e, p⟩ := h
 rw [e]
 exact w h' p
end W
theorem Wp.run {x : Option (Value × AH)} {v : Value} {P : AH → Prop} (w : Wp x fun r => r.1 = v ∧ P r.2) : ∃ h', x = some (v, h') ∧ P h' := by
 obtain ⟨⟨u, h⟩, e, q, p⟩ := w
 exact ⟨h, by rw [e]; simp only at q; rw [q], p⟩
end Go.Proofs.Ytjmkbglnjklbcaa.Am
set_option linter.unusedSimpArgs false
set_option linter.unusedVariables false
namespace Go.Proofs.Ytjmkbglnjklbcaa.Am
open Go Go.RowKit
inductive Tm where
 | mk (k n : Int) (s : ByteArray) (l : List Tm)
def TmR (h : AH) (p : Nat → Prop) : Nat → Tm → List Value → Prop
 | 0, _, _ => False
 | f + 1, .mk k n s l, cs => s.size ≤ maxLen ∧ l.length ≤ maxLen ∧ ∃ a vs, cs = [.int .i64 k, .int .i64 n, .string s, .slice a l.length l.length] ∧ Sl h a vs ∧ (vs = [] ∨ ∀ b, blk a b → p b) ∧ vs.length = l.length * 4 ∧
   ∀ i t, l[i]? = some t → TmR h p f t ((vs.drop (i * 4)).take 4)
def TsR (h : AH) (p : Nat → Prop) (f : Nat) (l : List Tm) (a : Option Addr) : Prop :=
 ∃ vs, Sl h a vs ∧ (vs = [] ∨ ∀ b, blk a b → p b) ∧ vs.length = l.length * 4 ∧ ∀ i t, l[i]? = some t → TmR h p f t ((vs.drop (i * 4)).take 4)
theorem TmR.keep {h h' : AH} {p S : Nat → Prop} (k : KB S h h') (hp : ∀ b, p b → ¬ S b) : ∀ (f : Nat) (t : Tm) (cs : List Value), TmR h p f t cs → TmR h' p f t cs
 | 0, _, _, x => x
 | f + 1, .mk kk n s l, cs, x => by
  obtain ⟨h1, h2, a, vs, h3, h4, h5, h6, h7⟩ := x
  refine ⟨h1, h2, a, vs, h3, ?_, h5, h6, fun i t hi => TmR.keep k hp f t _ (h7 i t hi)⟩
  rcases h5 with e | h5
  ·exact .inl e
  ·exact h4.keep k fun b hb hs => hp b (h5 b hb) hs
theorem TsR.keep {h h' : AH} {p S : Nat → Prop} (k : KB S h h') (hp : ∀ b, p b → ¬ S b) {f : Nat} {l : List Tm} {a : Option Addr} (x : TsR h p f l a) : TsR h' p f l a := by
 obtain ⟨vs, h4, h5, h6, h7⟩ := x
 refine ⟨vs, ?_, h5, h6, fun i t hi => TmR.keep k hp f t _ (h7 i t hi)⟩
 rcases h5 with e | h5
 ·exact .inl e
 ·exact h4.keep k fun b hb hs => hp b (h5 b hb) hs
theorem TmR.mono {h : AH} {p q : Nat → Prop} (hpq : ∀ b, p b → q b) : ∀ (f : Nat) (t : Tm) (cs : List Value), TmR h p f t cs → TmR h q f t cs
 | 0, _, _, x => x
 | f + 1, .mk kk n s l, cs, x => by
  obtain ⟨h1, h2, a, vs, h3, h4, h5, h6, h7⟩ := x
  exact ⟨h1, h2, a, vs, h3, h4, h5.imp id fun h b hb => hpq b (h b hb), h6, fun i t hi => TmR.mono hpq f t _ (h7 i t hi)⟩
theorem TmR.parts {h : AH} {p : Nat → Prop} {f : Nat} {k n : Int} {s : ByteArray} {l : List Tm} {cs : List Value} (x : TmR h p (f + 1) (.mk k n s l) cs) :
  ∃ a, cs = [.int .i64 k, .int .i64 n, .string s, .slice a l.length l.length] ∧ TsR h p f l a ∧ s.size ≤ maxLen ∧ l.length ≤ maxLen := by
 obtain ⟨h1, h2, a, vs, h3, h4, h5, h6, h7⟩ := x
 exact ⟨a, h3, ⟨vs, h4, h5, h6, h7⟩, h1, h2⟩
theorem TmR.of {h : AH} {p : Nat → Prop} {f : Nat} {k n : Int} {s : ByteArray} {l : List Tm} {a : Option Addr} (x : TsR h p f l a) (h1 : s.size ≤ maxLen) (h2 : l.length ≤ maxLen) :
  TmR h p (f + 1) (.mk k n s l) [.int .i64 k, .int .i64 n, .string s, .slice a l.length l.length] := by
 obtain ⟨vs, h4, h5, h6, h7⟩ := x
 exact ⟨h1, h2, a, vs, rfl, h4, h5, h6, h7⟩
theorem TsR.get {h : AH} {p : Nat → Prop} {f : Nat} {l : List Tm} {a : Option Addr} (x : TsR h p f l a) {i : Nat} (hi : i < l.length) :
  ∃ ad c0 c1 c2 c3, a = some ad ∧ Am.cell h ad.block (ad.off + i * 4) = some c0 ∧ Am.cell h ad.block (ad.off + i * 4 + 1) = some c1 ∧ Am.cell h ad.block (ad.off + i * 4 + 1 + 1) = some c2 ∧ Am.cell h ad.block (ad.off + i * 4 + 1 + 1 + 1) = some c3 ∧ TmR h p f l[i] [c0, c1, c2, c3] := by
 obtain ⟨vs, h4, h5, h6, h7⟩ := x
 have hlt : i * 4 + 3 < vs.length := by omega
 have hm := h7 i l[i] (List.getElem?_eq_getElem hi)
 obtain ⟨ad, e0, g0⟩ := h4.cell (i := i * 4) (List.getElem?_eq_getElem (by omega))
 obtain ⟨ad1, e1, g1⟩ := h4.cell (i := i * 4 + 1) (List.getElem?_eq_getElem (by omega))
 obtain ⟨ad2, e2, g2⟩ := h4.cell (i := i * 4 + 2) (List.getElem?_eq_getElem (by omega))
 obtain ⟨ad3, e3, g3⟩ := h4.cell (i := i * 4 + 3) (List.getElem?_eq_getElem (by omega))
 subst e0
 injection e1 with e1
 injection e2 with e2
 injection e3 with e3
 subst e1; subst e2; subst e3
 have e4 : (vs.drop (i * 4)).take 4 = [vs[i * 4], vs[i * 4 + 1], vs[i * 4 + 2], vs[i * 4 + 3]] := by
  apply List.ext_getElem?
  intro j
  match j with
  | 0 => rw [List.getElem?_take_of_lt (by decide), List.getElem?_drop]; exact List.getElem?_eq_getElem (by omega)
  | 1 => rw [List.getElem?_take_of_lt (by decide), List.getElem?_drop]; exact List.getElem?_eq_getElem (by omega)
  | 2 => rw [List.getElem?_take_of_lt (by decide), List.getElem?_drop]; exact List.getElem?_eq_getElem (by omega)
  | 3 => rw [List.getElem?_take_of_lt (by decide), List.getElem?_drop]; exact List.getElem?_eq_getElem (by omega)
  | j + 4 => rw [List.getElem?_eq_none (by simp; omega), List.getElem?_eq_none (by simp)]
 rw [e4] at hm
 exact ⟨ad, _, _, _, _, rfl, g0, by rw [Nat.add_assoc]; exact g1, by rw [Nat.add_assoc, Nat.add_assoc]; exact g2, by rw [Nat.add_assoc, Nat.add_assoc, Nat.add_assoc]; exact g3, hm⟩
def sumL {α : Type} (g : α → Nat) : List α → Nat
 | [] => 0
 | t :: r => g t + sumL g r
def tcnt : Nat → Tm → Nat
 | 0, _ => 0
 | f + 1, .mk _ _ _ l => l.length + sumL (tcnt f) l
def TmB : Nat → Tm → Prop
 | 0, _ => False
 | f + 1, .mk _ _ s l => s.size ≤ 1048576 ∧ l.length ≤ 1048576 ∧ ∀ t ∈ l, TmB f t
abbrev termV (k n : Int) (s : ByteArray) (a : Option Addr) (m : Nat) : List Value := [.int .i64 k, .int .i64 n, .string s, .slice a m m]
theorem TmR.form {h : AH} {p : Nat → Prop} {f : Nat} {t : Tm} {cs : List Value} (x : TmR h p f t cs) : ∃ k n s a m, cs = termV k n s a m := by
 cases f with
 | zero => exact x.elim
 | succ f =>
  obtain ⟨k, n, s, l⟩ := t
  obtain ⟨a, e, _⟩ := x.parts
  exact ⟨k, n, s, a, _, e⟩
theorem TmR.same {h : AH} {p p2 : Nat → Prop} {f f2 : Nat} {t : Tm} {k n k2 n2 : Int} {s s2 : ByteArray} {a a2 : Option Addr} {m m2 : Nat} (x : TmR h p f t (termV k n s a m)) (y : TmR h p2 f2 t (termV k2 n2 s2 a2 m2)) : k2 = k ∧ n2 = n ∧ s2 = s ∧ m2 = m := by
 cases f with
 | zero => exact x.elim
 | succ f =>
  cases f2 with
  | zero => exact y.elim
  | succ f2 =>
   obtain ⟨k0, n0, s0, l0⟩ := t
   obtain ⟨_, e, _⟩ := x.parts
   obtain ⟨_, e', _⟩ := y.parts
   injection e with e0 e
   injection e with e1 e
   injection e with e2 e
   injection e with e3 _
   injection e0 with _ e0
   injection e1 with _ e1
   injection e2 with e2
   injection e3 with _ e3 _
   injection e' with f0 e'
   injection e' with f1 e'
   injection e' with f2 e'
   injection e' with f3 _
   injection f0 with _ f0
   injection f1 with _ f1
   injection f2 with f2
   injection f3 with _ f3 _
   exact ⟨f0.trans e0.symm, f1.trans e1.symm, f2.trans e2.symm, f3.trans e3.symm⟩
theorem TmR.le {h : AH} {p : Nat → Prop} : ∀ {f f' : Nat} (hf : f ≤ f') {t : Tm} {cs : List Value}, TmR h p f t cs → TmR h p f' t cs
 | 0, _, _, _, _, x => x.elim
 | f + 1, 0, hf, _, _, _ => absurd hf (Nat.not_succ_le_zero _)
 | f + 1, f' + 1, hf, .mk k n s l, cs, x => by
  obtain ⟨h1, h2, a, vs, h3, h4, h5, h6, h7⟩ := x
  exact ⟨h1, h2, a, vs, h3, h4, h5, h6, fun i t hi => (h7 i t hi).le (Nat.le_of_succ_le_succ hf)⟩
theorem TsR.le {h : AH} {p : Nat → Prop} {f f' : Nat} (hf : f ≤ f') {l : List Tm} {a : Option Addr} (x : TsR h p f l a) : TsR h p f' l a := by
 obtain ⟨vs, h1, h2, h3, h4⟩ := x
 exact ⟨vs, h1, h2, h3, fun i y hy => (h4 i y hy).le hf⟩
theorem TsR.ltp' {h : AH} {p : Nat → Prop} {f : Nat} (ih : ∀ t cs, TmR h p f t cs → TmR h (fun b => p b ∧ b < h.length) f t cs) {l : List Tm} {a : Option Addr} (x : TsR h p f l a) : TsR h (fun b => p b ∧ b < h.length) f l a := by
 obtain ⟨vs, h1, h2, h3, h4⟩ := x
 refine ⟨vs, h1, ?_, h3, fun i t hi => ih _ _ (h4 i t hi)⟩
 rcases h2 with e | h2
 ·exact .inl e
 ·rcases h1 with e | ⟨ad, k, e1, e2, _⟩
  ·exact .inl e
  ·exact .inr fun b hb => ⟨h2 b hb, by obtain ⟨ad', e3, e4⟩ := hb; rw [e1] at e3; injection e3 with e3; subst e3; subst e4; exact hget_lt e2⟩
theorem TmR.ltp {h : AH} {p : Nat → Prop} : ∀ (f : Nat) (t : Tm) (cs : List Value), TmR h p f t cs → TmR h (fun b => p b ∧ b < h.length) f t cs
 | 0, _, _, x => x.elim
 | f + 1, .mk k n s l, cs, x => by
  obtain ⟨a, rfl, hts, h1, h2⟩ := x.parts
  exact TmR.of (hts.ltp' (TmR.ltp f)) h1 h2
theorem TmB.le : ∀ {f f' : Nat} (hf : f ≤ f') {t : Tm}, TmB f t → TmB f' t
 | 0, _, _, _, x => x.elim
 | f + 1, 0, hf, _, _ => absurd hf (Nat.not_succ_le_zero _)
 | f + 1, f' + 1, hf, .mk k n s l, x => ⟨x.1, x.2.1, fun t ht => (x.2.2 t ht).le (Nat.le_of_succ_le_succ hf)⟩
end Go.Proofs.Ytjmkbglnjklbcaa.Am
set_option linter.unusedSimpArgs false
set_option linter.unusedVariables false
namespace Go.Proofs.Ytjmkbglnjklbcaa.Am
open Go Go.RowKit
abbrev Fp := Nat → Prop
abbrev iS (lo hi : Nat) : Fp := fun b => lo ≤ b ∧ b < hi
abbrev chunk (w i : Nat) (vs : List Value) : List Value := (vs.drop (i * w)).take w
def Kp {α : Type} (P : Fp → AH → α → List Value → Prop) : Prop := ∀ (S U : Fp) (h h' : AH) (x : α) (cs : List Value), KB U h h' → (∀ b, S b → ¬ U b) → P S h x cs → P S h' x cs
def Mo {α : Type} (P : Fp → AH → α → List Value → Prop) : Prop := ∀ (S S' : Fp) (h : AH) (x : α) (cs : List Value), (∀ b, S b → S' b) → P S h x cs → P S' h x cs
section
variable {α : Type} {w : Nat} {P : Fp → AH → α → List Value → Prop}
def Chunks (w : Nat) (P : Fp → AH → α → List Value → Prop) (S : Fp) (h : AH) (l : List α) (vs : List Value) : Prop :=
 ∃ C : Nat → Fp, (∀ i b, C i b → S b) ∧ (∀ i j b, i ≠ j → C i b → ¬ C j b) ∧ ∀ i x, l[i]? = some x → P (C i) h x (chunk w i vs)
def RowD (w : Nat) (P : Fp → AH → α → List Value → Prop) (S : Fp) (h : AH) (l : List α) (a : Option Addr) : Prop :=
 ∃ (vs : List Value) (T : Fp), Sl h a vs ∧ vs.length = l.length * w ∧ (vs = [] ∨ ∀ b, blk a b → S b ∧ ¬ T b) ∧ (∀ b, T b → S b) ∧ Chunks w P T h l vs
theorem Chunks.keep (kp : Kp P) {S U : Fp} {h h' : AH} {l : List α} {vs : List Value} (k : KB U h h') (hs : ∀ b, S b → ¬ U b) (x : Chunks w P S h l vs) : Chunks w P S h' l vs := by
 obtain ⟨C, c1, c2, c3⟩ := x
 exact ⟨C, c1, c2, fun i y hy => kp _ _ _ _ _ _ k (fun b hb => hs b (c1 i b hb)) (c3 i y hy)⟩
theorem Chunks.mono {S S' : Fp} {h : AH} {l : List α} {vs : List Value} (hs : ∀ b, S b → S' b) (x : Chunks w P S h l vs) : Chunks w P S' h l vs := by
 obtain ⟨C, c1, c2, c3⟩ := x
 exact ⟨C, fun i b hb => hs b (c1 i b hb), c2, c3⟩
theorem Chunks.nil {S : Fp} {h : AH} {vs : List Value} : Chunks w P S h ([] : List α) vs := ⟨fun _ _ => False, fun _ _ h => h.elim, fun _ _ _ _ h => h.elim, fun i x h => by simp at h⟩
theorem Chunks.snoc {S S' T : Fp} {h : AH} {l : List α} {vs vs' cs : List Value} {x : α} (c : Chunks w P S h l vs) (hx : P T h x cs) (hT : ∀ b, T b → ¬ S b) (h1 : ∀ b, S b → S' b) (h2 : ∀ b, T b → S' b)
  (hv : ∀ i, i < l.length → chunk w i vs' = chunk w i vs) (hc : chunk w l.length vs' = cs) : Chunks w P S' h (l ++ [x]) vs' := by
 obtain ⟨C, c1, c2, c3⟩ := c
 refine ⟨fun i b => if i = l.length then T b else (i < l.length ∧ C i b), fun i b hb => ?_, fun i j b hij hi hj => ?_, fun i y hy => ?_⟩
 ·simp only at hb
  split at hb
  ·exact h2 b hb
  ·exact h1 b (c1 i b hb.2)
 ·simp only at hi hj
  split at hi
  ·rename_i e
   split at hj
   ·rename_i e2; exact hij (e.trans e2.symm)
   ·exact hT b hi (c1 j b hj.2)
  ·split at hj
   ·exact hT b hj (c1 i b hi.2)
   ·exact c2 i j b hij hi.2 hj.2
 ·have hlt : i < l.length + 1 := by have := (List.getElem?_eq_some_iff.1 hy).1; simpa using this
  by_cases e : i = l.length
  ·subst e
   simp at hy
   subst hy
   have ee : (fun b => if l.length = l.length then T b else (l.length < l.length ∧ C l.length b)) = T := by funext b; simp
   show P (fun b => if l.length = l.length then T b else (l.length < l.length ∧ C l.length b)) h x (chunk w l.length vs')
   rw [ee, hc]
   exact hx
  ·have hi : i < l.length := by omega
   have ee : (fun b => if i = l.length then T b else (i < l.length ∧ C i b)) = C i := by funext b; simp [e, hi]
   show P (fun b => if i = l.length then T b else (i < l.length ∧ C i b)) h y (chunk w i vs')
   rw [ee, hv i hi]
   rw [List.getElem?_append_left hi] at hy
   exact c3 i y hy
theorem RowD.keep (kp : Kp P) {S U : Fp} {h h' : AH} {l : List α} {a : Option Addr} (x : RowD w P S h l a) (k : KB U h h') (hs : ∀ b, S b → ¬ U b) : RowD w P S h' l a := by
 obtain ⟨vs, T, x1, x2, x3, x4, x5⟩ := x
 refine ⟨vs, T, ?_, x2, x3, x4, x5.keep kp k fun b hb => hs b (x4 b hb)⟩
 rcases x3 with e | x3
 ·exact .inl e
 ·exact x1.keep k fun b hb => hs b (x3 b hb).1
theorem RowD.mono {S S' : Fp} {h : AH} {l : List α} {a : Option Addr} (x : RowD w P S h l a) (hs : ∀ b, S b → S' b) : RowD w P S' h l a := by
 obtain ⟨vs, T, x1, x2, x3, x4, x5⟩ := x
 exact ⟨vs, T, x1, x2, x3.imp id fun g b hb => ⟨hs b (g b hb).1, (g b hb).2⟩, fun b hb => hs b (x4 b hb), x5⟩
theorem RowD.nil {S : Fp} {h : AH} {a : Option Addr} : RowD w P S h ([] : List α) a := ⟨[], fun _ => False, .inl rfl, by simp, .inl rfl, fun _ h => h.elim, Chunks.nil⟩
def RowO (base t w : Nat) (P : Fp → AH → α → List Value → Prop) (S : Fp) (h : AH) (l : List α) (a : Option Addr) : Prop :=
 ∃ (vs : List Value) (T : Fp), Own base t h a vs ∧ vs.length = l.length * w ∧ (∀ b, blk a b → S b ∧ ¬ T b) ∧ (∀ b, T b → S b) ∧ Chunks w P T h l vs
theorem RowO.d {base t : Nat} {S : Fp} {h : AH} {l : List α} {a : Option Addr} (x : RowO base t w P S h l a) : RowD w P S h l a := by
 obtain ⟨vs, T, x1, x2, x3, x4, x5⟩ := x
 exact ⟨vs, T, x1.sl, x2, .inr x3, x4, x5⟩
theorem RowO.keep (kp : Kp P) {base t : Nat} {S U : Fp} {h h' : AH} {l : List α} {a : Option Addr} (x : RowO base t w P S h l a) (k : KB U h h') (hs : ∀ b, S b → ¬ U b) : RowO base t w P S h' l a := by
 obtain ⟨vs, T, x1, x2, x3, x4, x5⟩ := x
 exact ⟨vs, T, x1.keep k fun b hb => hs b (x3 b hb).1, x2, x3, x4, x5.keep kp k fun b hb => hs b (x4 b hb)⟩
theorem RowO.mono {base t : Nat} {S S' : Fp} {h : AH} {l : List α} {a : Option Addr} (x : RowO base t w P S h l a) (hs : ∀ b, S b → S' b) : RowO base t w P S' h l a := by
 obtain ⟨vs, T, x1, x2, x3, x4, x5⟩ := x
 exact ⟨vs, T, x1, x2, fun b hb => ⟨hs b (x3 b hb).1, (x3 b hb).2⟩, fun b hb => hs b (x4 b hb), x5⟩
theorem RowO.nil {base t : Nat} {S : Fp} {h : AH} : RowO base t w P S h ([] : List α) none := ⟨[], fun _ => False, .inl ⟨rfl, rfl⟩, by simp, fun b hb => (by obtain ⟨_, e, _⟩ := hb; cases e), fun _ h => h.elim, Chunks.nil⟩
theorem Chunks.imp {Q : Fp → AH → α → List Value → Prop} {S : Fp} {h : AH} {l : List α} {vs : List Value} (hPQ : ∀ S h x cs, P S h x cs → Q S h x cs) (x : Chunks w P S h l vs) : Chunks w Q S h l vs := by
 obtain ⟨C, c1, c2, c3⟩ := x
 exact ⟨C, c1, c2, fun i y hy => hPQ _ _ _ _ (c3 i y hy)⟩
theorem RowD.imp {Q : Fp → AH → α → List Value → Prop} {S : Fp} {h : AH} {l : List α} {a : Option Addr} (hPQ : ∀ S h x cs, P S h x cs → Q S h x cs) (x : RowD w P S h l a) : RowD w Q S h l a := by
 obtain ⟨vs, T, x1, x2, x3, x4, x5⟩ := x
 exact ⟨vs, T, x1, x2, x3, x4, x5.imp hPQ⟩
theorem Sl.wr {base : Nat} {h : AH} {a : Option Addr} {vs : List Value} (x : Sl h a vs) (hb : ∀ b, blk a b → base ≤ b) {i : Nat} {new : List Value} (hi : i + new.length ≤ vs.length) (h0 : 0 < new.length) :
  ∃ ad h', a = some ad ∧ Am.wr base h ad.block (ad.off + i) new = some h' ∧ Sl h' a (setAt vs i new) ∧ KB (blk a) h h' ∧ h'.length = h.length := by
 rcases x with h | ⟨ad, kk, h1, h2, h3, h4⟩
 ·subst h; simp only [List.length_nil] at hi; omega
 ·have hbb := hb ad.block ⟨ad, h1, rfl⟩
  refine ⟨ad, h.set ad.block (some ⟨setAt kk.cs (ad.off + i) new, kk.ty⟩), h1, ?_, ?_, KB.set _ ⟨ad, h1, rfl⟩, by simp⟩
  ·unfold Am.wr
   rw [if_pos hbb, h2]
   simp only [Option.bind_some]
   rw [if_pos (by omega)]
  ·have hl : (setAt vs i new).length = vs.length := by simp [setAt]; omega
   refine .inr ⟨ad, ⟨setAt kk.cs (ad.off + i) new, kk.ty⟩, h1, hget_set_self (hget_lt h2), ?_, fun j v hj => ?_⟩
   ·rw [hl]; simp [setAt]; omega
   ·simp only
    rw [setAt_get hi] at hj
    rw [setAt_get (by omega)]
    split at hj
    ·rename_i hin
     rw [if_pos (by omega), show ad.off + j - (ad.off + i) = j - i from by omega]
     exact hj
    ·rename_i hout
     rw [if_neg (by omega)]
     exact h4 j v hj
def Foc (w : Nat) (P : Fp → AH → α → List Value → Prop) (S : Fp) (h : AH) (l : List α) (a : Option Addr) (i : Nat) (Ci : Fp) (cs : List Value) : Prop :=
 ∃ (vs : List Value) (T : Fp) (C : Nat → Fp), Sl h a vs ∧ vs.length = l.length * w ∧ (∀ b, blk a b → S b ∧ ¬ T b) ∧ (∀ b, T b → S b) ∧ (∀ q b, C q b → T b) ∧ (∀ q j b, q ≠ j → C q b → ¬ C j b) ∧
  (∀ q x, q ≠ i → l[q]? = some x → P (C q) h x (chunk w q vs)) ∧ i < l.length ∧ chunk w i vs = cs ∧ C i = Ci
theorem mul_le' {i n w : Nat} (h : i < n) : i * w + w ≤ n * w := by
 have := Nat.mul_le_mul_right w (Nat.succ_le_of_lt h)
 rw [Nat.succ_mul] at this
 exact this
theorem chunk_len {w i n : Nat} {vs : List Value} (hl : vs.length = n * w) (hi : i < n) : (chunk w i vs).length = w := by
 have := mul_le' (w := w) hi
 simp [chunk]
 omega
theorem RowD.open (hw : 0 < w) {S : Fp} {h : AH} {l : List α} {a : Option Addr} (x : RowD w P S h l a) {i : Nat} (hi : i < l.length) :
  ∃ Ci cs, Foc w P S h l a i Ci cs ∧ P Ci h l[i] cs ∧ cs.length = w ∧ (∀ b, Ci b → S b) ∧ (∀ b, blk a b → ¬ Ci b) := by
 obtain ⟨vs, T, x1, x2, x3, x4, C, c1, c2, c3⟩ := x
 have hne : vs ≠ [] := by
  intro e
  subst e
  have := mul_le' (w := w) hi
  simp at x2
  omega
 have x3' := x3.resolve_left hne
 exact ⟨C i, chunk w i vs, ⟨vs, T, C, x1, x2, x3', x4, c1, c2, fun q y _ hy => c3 q y hy, hi, rfl, rfl⟩, c3 i _ (List.getElem?_eq_getElem hi), chunk_len x2 hi, fun b hb => x4 b (c1 i b hb), fun b hb hc => (x3' b hb).2 (c1 i b hc)⟩
theorem Foc.keep (kp : Kp P) {S U : Fp} {h h' : AH} {l : List α} {a : Option Addr} {i : Nat} {Ci : Fp} {cs : List Value} (x : Foc w P S h l a i Ci cs) (k : KB U h h') (hs : ∀ b, S b → U b → Ci b) : Foc w P S h' l a i Ci cs := by
 obtain ⟨vs, T, C, x1, x2, x3, x4, c1, c2, c3, hi, e1, e2⟩ := x
 subst e2
 refine ⟨vs, T, C, x1.keep k fun b hb hu => (x3 b hb).2 (c1 i b (hs b (x3 b hb).1 hu)), x2, x3, x4, c1, c2, fun q y hq hy => kp _ _ _ _ _ _ k (fun b hb hu => c2 q i b hq hb (hs b (x4 b (c1 q b hb)) hu)) (c3 q y hq hy), hi, e1, rfl⟩
theorem Foc.wr (kp : Kp P) {base : Nat} {S : Fp} {h : AH} {l : List α} {a : Option Addr} {i : Nat} {Ci : Fp} {cs : List Value} (x : Foc w P S h l a i Ci cs) (hb : ∀ b, S b → base ≤ b) {j : Nat} {new : List Value} (hj : j + new.length ≤ w) (h0 : 0 < new.length) :
  ∃ ad h', a = some ad ∧ Am.wr base h ad.block (ad.off + i * w + j) new = some h' ∧ Foc w P S h' l a i Ci (setAt cs j new) ∧ KB (blk a) h h' ∧ h'.length = h.length := by
 obtain ⟨vs, T, C, x1, x2, x3, x4, c1, c2, c3, hi, e1, e2⟩ := x
 subst e2
 have hle := mul_le' (w := w) hi
 obtain ⟨ad, h', w1, w2, w3, w4, w5⟩ := x1.wr (base := base) (fun b hbb => hb b (x3 b hbb).1) (i := i * w + j) (new := new) (by omega) h0
 refine ⟨ad, h', w1, by rw [Nat.add_assoc]; exact w2, ⟨setAt vs (i * w + j) new, T, C, w3, ?_, x3, x4, c1, c2, fun q y hq hy => ?_, hi, ?_, rfl⟩, w4, w5⟩
 ·simp [setAt]; omega
 ·have e : chunk w q (setAt vs (i * w + j) new) = chunk w q vs := by
   apply List.ext_getElem?
   intro t
   by_cases ht : t < w
   ·rw [chunk, chunk, List.getElem?_take_of_lt ht, List.getElem?_take_of_lt ht, List.getElem?_drop, List.getElem?_drop, setAt_get (by omega), if_neg]
    intro hh
    rcases Nat.lt_or_gt_of_ne hq with hlt | hgt
    ·have := mul_le' (w := w) hlt; omega
    ·have := mul_le' (w := w) hgt; omega
   ·rw [List.getElem?_eq_none (by simp [chunk]; omega), List.getElem?_eq_none (by simp [chunk]; omega)]
  rw [e]
  exact kp _ _ _ _ _ _ w4 (fun b hbb hk => (x3 b hk).2 (c1 q b hbb)) (c3 q y hq hy)
 ·rw [← e1]
  apply List.ext_getElem?
  intro t
  have hcl : (chunk w i vs).length = w := chunk_len x2 hi
  by_cases ht : t < w
  ·rw [chunk, List.getElem?_take_of_lt ht, List.getElem?_drop, setAt_get (by omega), setAt_get (by omega)]
   by_cases hin : j ≤ t ∧ t < j + new.length
   ·rw [if_pos (by omega), if_pos (by omega), show i * w + t - (i * w + j) = t - j from by omega]
   ·rw [if_neg (by omega), if_neg (by omega), chunk, List.getElem?_take_of_lt ht, List.getElem?_drop]
  ·rw [List.getElem?_eq_none (by simp [chunk]; omega), List.getElem?_eq_none (by simp [setAt]; omega)]
theorem Foc.cell {S : Fp} {h : AH} {l : List α} {a : Option Addr} {i : Nat} {Ci : Fp} {cs : List Value} (x : Foc w P S h l a i Ci cs) {j : Nat} {v : Value} (hv : cs[j]? = some v) : ∃ ad, a = some ad ∧ Am.cell h ad.block (ad.off + i * w + j) = some v := by
 obtain ⟨vs, T, C, x1, x2, x3, x4, c1, c2, c3, hi, e1, e2⟩ := x
 have hjw : j < w := by
  have h1 := (List.getElem?_eq_some_iff.1 hv).1
  rw [← e1, chunk_len x2 hi] at h1
  exact h1
 rw [← e1, chunk, List.getElem?_take_of_lt hjw, List.getElem?_drop] at hv
 obtain ⟨ad, g1, g2⟩ := x1.cell hv
 exact ⟨ad, g1, by rw [Nat.add_assoc]; exact g2⟩
end
theorem chunk_setAt_self {w i : Nat} {vs cs : List Value} (hc : cs.length = w) (hi : i * w + w ≤ vs.length) : chunk w i (setAt vs (i * w) cs) = cs := by
 apply List.ext_getElem?
 intro j
 by_cases hj : j < w
 ·rw [chunk, List.getElem?_take_of_lt hj, List.getElem?_drop, setAt_get (by omega), if_pos (by omega), show i * w + j - i * w = j from by omega]
 ·rw [List.getElem?_eq_none (by simp [chunk]; omega), List.getElem?_eq_none (by omega)]
theorem chunk_setAt_other {w i j : Nat} {vs cs : List Value} (hc : cs.length = w) (hi : i * w + w ≤ vs.length) (hne : j ≠ i) : chunk w j (setAt vs (i * w) cs) = chunk w j vs := by
 apply List.ext_getElem?
 intro k
 by_cases hk : k < w
 ·rw [chunk, chunk, List.getElem?_take_of_lt hk, List.getElem?_take_of_lt hk, List.getElem?_drop, List.getElem?_drop, setAt_get (by omega), if_neg]
  intro hh
  rcases Nat.lt_or_gt_of_ne hne with hlt | hgt
  ·have := mul_le' (w := w) hlt; omega
  ·have := mul_le' (w := w) hgt; omega
 ·rw [List.getElem?_eq_none (by simp [chunk]; omega), List.getElem?_eq_none (by simp [chunk]; omega)]
theorem chunk_app_other {w i : Nat} {vs cs : List Value} (hi : i * w + w ≤ vs.length) : chunk w i (vs ++ cs) = chunk w i vs := by
 apply List.ext_getElem?
 intro k
 by_cases hk : k < w
 ·rw [chunk, chunk, List.getElem?_take_of_lt hk, List.getElem?_take_of_lt hk, List.getElem?_drop, List.getElem?_drop, List.getElem?_append_left (by omega)]
 ·rw [List.getElem?_eq_none (by simp [chunk]; omega), List.getElem?_eq_none (by simp [chunk]; omega)]
theorem chunk_app_self {w i : Nat} {vs cs : List Value} (hc : cs.length = w) (hi : vs.length = i * w) : chunk w i (vs ++ cs) = cs := by
 rw [chunk, ← hi, List.drop_left, ← hc, List.take_length]
theorem take_snoc {α : Type} {l : List α} {i : Nat} (hi : i < l.length) : l.take (i + 1) = l.take i ++ [l[i]] := by simp
def TmD : Nat → Fp → AH → Tm → List Value → Prop
 | 0, _, _, _, _ => False
 | f + 1, S, h, .mk k n s l, cs => s.size ≤ maxLen ∧ l.length ≤ maxLen ∧ ∃ a, cs = termV k n s a l.length ∧ RowD 4 (TmD f) S h l a
theorem TmD.kp : ∀ f, Kp (TmD f)
 | 0 => fun S U h h' x cs k hs y => y.elim
 | f + 1 => fun S U h h' x cs k hs y => by
  obtain ⟨kk, n, s, l⟩ := x
  obtain ⟨h1, h2, a, e, r⟩ := y
  exact ⟨h1, h2, a, e, r.keep (TmD.kp f) k hs⟩
theorem TmD.mo : ∀ f, Mo (TmD f)
 | 0 => fun S S' h x cs hs y => y.elim
 | f + 1 => fun S S' h x cs hs y => by
  obtain ⟨kk, n, s, l⟩ := x
  obtain ⟨h1, h2, a, e, r⟩ := y
  exact ⟨h1, h2, a, e, r.mono hs⟩
theorem RowD.tsR' {f : Nat} (ih : ∀ S h t cs, TmD f S h t cs → TmR h S f t cs) {S : Fp} {h : AH} {l : List Tm} {a : Option Addr} (x : RowD 4 (TmD f) S h l a) : TsR h S f l a := by
 obtain ⟨vs, T, x1, x2, x3, x4, C, c1, c2, c3⟩ := x
 exact ⟨vs, x1, x3.imp id fun g b hb => (g b hb).1, x2, fun i t hi => (ih _ _ _ _ (c3 i t hi)).mono (fun b hb => x4 b (c1 i b hb)) _ _ _⟩
theorem TmD.tmR : ∀ f S h t cs, TmD f S h t cs → TmR h S f t cs
 | 0, S, h, t, cs, x => x.elim
 | f + 1, S, h, .mk k n s l, cs, x => by
  obtain ⟨h1, h2, a, e, r⟩ := x
  subst e
  exact TmR.of (RowD.tsR' (TmD.tmR f) r) h1 h2
theorem RowD.tsR {f : Nat} {S : Fp} {h : AH} {l : List Tm} {a : Option Addr} (x : RowD 4 (TmD f) S h l a) : TsR h S f l a := x.tsR' (TmD.tmR f)
def TmG (base : Nat) : Nat → Fp → AH → Tm → List Value → Prop
 | 0, _, _, _, _ => False
 | f + 1, S, h, .mk k n s l, cs => s.size ≤ maxLen ∧ l.length ≤ maxLen ∧ ∃ a, cs = termV k n s a l.length ∧ RowO base 39 4 (TmG base f) S h l a
theorem TmG.kp (base : Nat) : ∀ f, Kp (TmG base f)
 | 0 => fun S U h h' x cs k hs y => y.elim
 | f + 1 => fun S U h h' x cs k hs y => by
  obtain ⟨kk, n, s, l⟩ := x
  obtain ⟨h1, h2, a, e, r⟩ := y
  exact ⟨h1, h2, a, e, r.keep (TmG.kp base f) k hs⟩
theorem TmG.mo (base : Nat) : ∀ f, Mo (TmG base f)
 | 0 => fun S S' h x cs hs y => y.elim
 | f + 1 => fun S S' h x cs hs y => by
  obtain ⟨kk, n, s, l⟩ := x
  obtain ⟨h1, h2, a, e, r⟩ := y
  exact ⟨h1, h2, a, e, r.mono hs⟩
theorem TmG.d {base : Nat} : ∀ {f : Nat} {S : Fp} {h : AH} {t : Tm} {cs : List Value}, TmG base f S h t cs → TmD f S h t cs
 | 0, _, _, _, _, x => x.elim
 | f + 1, S, h, .mk k n s l, cs, x => by
  obtain ⟨h1, h2, a, e, r⟩ := x
  exact ⟨h1, h2, a, e, r.d.imp fun _ _ _ _ => TmG.d⟩
theorem RowO.dT {base f : Nat} {S : Fp} {h : AH} {l : List Tm} {a : Option Addr} {t : Nat} (x : RowO base t 4 (TmG base f) S h l a) : RowD 4 (TmD f) S h l a := x.d.imp fun _ _ _ _ => TmG.d
theorem RowO.tsG {base f : Nat} {S : Fp} {h : AH} {l : List Tm} {a : Option Addr} {t : Nat} (x : RowO base t 4 (TmG base f) S h l a) : TsR h S f l a := x.dT.tsR
theorem TmG.tmR {base f : Nat} {S : Fp} {h : AH} {t : Tm} {cs : List Value} (x : TmG base f S h t cs) : TmR h S f t cs := TmD.tmR _ _ _ _ _ x.d
theorem TmG.form {base f : Nat} {S : Fp} {h : AH} {t : Tm} {cs : List Value} (x : TmG base f S h t cs) : ∃ k n s a m, cs = termV k n s a m := by
 cases f with
 | zero => exact x.elim
 | succ f => obtain ⟨k, n, s, l⟩ := t; obtain ⟨_, _, a, e, _⟩ := x; exact ⟨k, n, s, a, _, e⟩
theorem RowO.tsR {base t f : Nat} {S : Fp} {h : AH} {l : List Tm} {a : Option Addr} (x : RowO base t 4 (TmD f) S h l a) : TsR h S f l a := x.d.tsR
end Go.Proofs.Ytjmkbglnjklbcaa.Am
set_option linter.unusedSimpArgs false
set_option linter.unusedVariables false
namespace Go.Proofs.Ytjmkbglnjklbcaa.Am
open Go Go.RowKit
end Go.Proofs.Ytjmkbglnjklbcaa.Am
set_option linter.unusedSimpArgs false
set_option linter.unusedVariables false
namespace Go.Proofs.Ytjmkbglnjklbcaa.Am
open Go Go.RowKit
end Go.Proofs.Ytjmkbglnjklbcaa.Am
set_option linter.unusedSimpArgs false
set_option linter.unusedVariables false
namespace Go.Proofs.Ytjmkbglnjklbcaa.Am
open Go Go.RowKit
def mtL : Nat → Int → ByteArray → ByteArray
 | 0, _, o => o
 | d + 1, k, o => if k > 0 then mtL d (Int.tdiv k 10) (bstr [IntKind.wrap .u8 (IntKind.wrap .i64 (48 + Int.tmod k 10))] ++ o) else o
def mt (k : Int) : ByteArray := if k ≤ 0 then ⟨#[109, 48]⟩ else ⟨#[109]⟩ ++ mtL 63 k ⟨#[]⟩
inductive IsM : List Tm → Int → Int → Prop
 | nil (k : Int) : IsM [] k k
 | cons {k k1 k2 : Int} {l r : List Tm} : IsM l (k + 3) k1 → IsM r k1 k2 → IsM (.mk k (k + 1) (mt (k + 2)) l :: r) k k2
theorem IsM.le {l : List Tm} {k k' : Int} (x : IsM l k k') : k ≤ k' := by
 induction x with
 | nil => exact Int.le_refl _
 | cons _ _ ih1 ih2 => omega
end Go.Proofs.Ytjmkbglnjklbcaa.Am
set_option linter.unusedSimpArgs false
set_option linter.unusedVariables false
namespace Go.Proofs.Ytjmkbglnjklbcaa.Am
open Go Go.RowKit
def marksI (k n : Nat) : List Int := (List.range n).map fun i => ((k + i : Nat) : Int)
end Go.Proofs.Ytjmkbglnjklbcaa.Am
set_option linter.unusedSimpArgs false
set_option linter.unusedVariables false
namespace Go.Proofs.Ytjmkbglnjklbcaa.Am
open Go Go.RowKit
structure Ac where
 pid : Int
 pc : Int
 regs : List Tm
 box : List Tm
 links : List Int
abbrev acV (p c : Int) (a : Option Addr) (n : Nat) (b : Option Addr) (m : Nat) (g : Option Addr) (q : Nat) : List Value := [.int .i64 p, .int .i64 c, .slice a n n, .slice b m m, .slice g q q]
def Ac.Le (A : Ac) : Prop := A.regs.length ≤ maxLen ∧ A.box.length ≤ maxLen ∧ A.links.length ≤ 140737488355328
def AcR (h : AH) (p : Nat → Prop) (f : Nat) (A : Ac) (cs : List Value) : Prop :=
 ∃ a b g, cs = acV A.pid A.pc a A.regs.length b A.box.length g A.links.length ∧ TsR h p f A.regs a ∧ TsR h p f A.box b ∧ Sl h g (iv .i64 A.links) ∧ (A.links = [] ∨ ∀ x, blk g x → p x)
def AcD (base f : Nat) (S : Fp) (h : AH) (A : Ac) (cs : List Value) : Prop :=
 ∃ (a b g : Option Addr) (S1 S2 S3 : Fp), cs = acV A.pid A.pc a A.regs.length b A.box.length g A.links.length ∧ RowD 4 (TmD f) S1 h A.regs a ∧ RowD 4 (TmD f) S2 h A.box b ∧ Own base 3 h g (iv .i64 A.links) ∧ (∀ x, blk g x → S3 x) ∧
  (∀ x, S1 x → S x) ∧ (∀ x, S2 x → S x) ∧ (∀ x, S3 x → S x) ∧ (∀ x, S1 x → ¬ S2 x) ∧ (∀ x, S1 x → ¬ S3 x) ∧ (∀ x, S2 x → ¬ S3 x)
def AcG (base f : Nat) (S : Fp) (h : AH) (A : Ac) (cs : List Value) : Prop :=
 ∃ (a b g : Option Addr) (S1 S2 S3 : Fp), cs = acV A.pid A.pc a A.regs.length b A.box.length g A.links.length ∧ RowO base 39 4 (TmG base f) S1 h A.regs a ∧ RowO base 39 4 (TmG base f) S2 h A.box b ∧ Own base 3 h g (iv .i64 A.links) ∧ (∀ x, blk g x → S3 x) ∧
  (∀ x, S1 x → S x) ∧ (∀ x, S2 x → S x) ∧ (∀ x, S3 x → S x) ∧ (∀ x, S1 x → ¬ S2 x) ∧ (∀ x, S1 x → ¬ S3 x) ∧ (∀ x, S2 x → ¬ S3 x)
theorem AcG.acD {base f : Nat} {S : Fp} {h : AH} {A : Ac} {cs : List Value} (x : AcG base f S h A cs) : AcD base f S h A cs := by
 obtain ⟨a, b, g, S1, S2, S3, e, h1, h2, h3⟩ := x
 exact ⟨a, b, g, S1, S2, S3, e, h1.dT, h2.dT, h3⟩
theorem AcG.kp (base f : Nat) : Kp (AcG base f) := fun S U h h' A cs k hs x => by
 obtain ⟨a, b, g, S1, S2, S3, e, h1, h2, h3, h4, s1, s2, s3, d1, d2, d3⟩ := x
 exact ⟨a, b, g, S1, S2, S3, e, h1.keep (TmG.kp _ _) k fun b hb => hs b (s1 b hb), h2.keep (TmG.kp _ _) k fun b hb => hs b (s2 b hb), h3.keep k fun b hb => hs b (s3 b (h4 b hb)), h4, s1, s2, s3, d1, d2, d3⟩
theorem AcG.mo (base f : Nat) : Mo (AcG base f) := fun S S' h A cs hs x => by
 obtain ⟨a, b, g, S1, S2, S3, e, h1, h2, h3, h4, s1, s2, s3, d1, d2, d3⟩ := x
 exact ⟨a, b, g, S1, S2, S3, e, h1, h2, h3, h4, fun x hx => hs x (s1 x hx), fun x hx => hs x (s2 x hx), fun x hx => hs x (s3 x hx), d1, d2, d3⟩
theorem AcR.keep {h h' : AH} {p S : Nat → Prop} (k : KB S h h') (hp : ∀ b, p b → ¬ S b) {f : Nat} {A : Ac} {cs : List Value} (x : AcR h p f A cs) : AcR h' p f A cs := by
 obtain ⟨a, b, g, e, h1, h2, h3, h4⟩ := x
 refine ⟨a, b, g, e, h1.keep k hp, h2.keep k hp, ?_, h4⟩
 rcases h4 with e | h4
 ·exact .inl (by rw [e]; rfl)
 ·exact h3.keep k fun b hb hs => hp b (h4 b hb) hs
theorem AcD.kp (base f : Nat) : Kp (AcD base f) := fun S U h h' A cs k hs x => by
 obtain ⟨a, b, g, S1, S2, S3, e, h1, h2, h3, h4, s1, s2, s3, d1, d2, d3⟩ := x
 exact ⟨a, b, g, S1, S2, S3, e, h1.keep (TmD.kp _) k fun b hb => hs b (s1 b hb), h2.keep (TmD.kp _) k fun b hb => hs b (s2 b hb), h3.keep k fun b hb => hs b (s3 b (h4 b hb)), h4, s1, s2, s3, d1, d2, d3⟩
theorem AcD.mo (base f : Nat) : Mo (AcD base f) := fun S S' h A cs hs x => by
 obtain ⟨a, b, g, S1, S2, S3, e, h1, h2, h3, h4, s1, s2, s3, d1, d2, d3⟩ := x
 exact ⟨a, b, g, S1, S2, S3, e, h1, h2, h3, h4, fun x hx => hs x (s1 x hx), fun x hx => hs x (s2 x hx), fun x hx => hs x (s3 x hx), d1, d2, d3⟩
theorem TsR.mono {h : AH} {p q : Nat → Prop} (hpq : ∀ b, p b → q b) {f : Nat} {l : List Tm} {a : Option Addr} (x : TsR h p f l a) : TsR h q f l a := by
 obtain ⟨vs, h1, h2, h3, h4⟩ := x
 exact ⟨vs, h1, h2.imp id fun g b hb => hpq b (g b hb), h3, fun i t hi => TmR.mono hpq f t _ (h4 i t hi)⟩
theorem AcD.acR {base f : Nat} {S : Fp} {h : AH} {A : Ac} {cs : List Value} (x : AcD base f S h A cs) : AcR h S f A cs := by
 obtain ⟨a, b, g, S1, S2, S3, e, h1, h2, h3, h4, s1, s2, s3, d1, d2, d3⟩ := x
 exact ⟨a, b, g, e, h1.tsR.mono s1, h2.tsR.mono s2, h3.sl, .inr fun x hx => s3 x (h4 x hx)⟩
theorem AcG.acR {base f : Nat} {S : Fp} {h : AH} {A : Ac} {cs : List Value} (x : AcG base f S h A cs) : AcR h S f A cs := x.acD.acR
theorem AcD.form {base f : Nat} {S : Fp} {h : AH} {A : Ac} {cs : List Value} (x : AcD base f S h A cs) : ∃ p c a n b m g q, cs = acV p c a n b m g q := by
 obtain ⟨a, b, g, S1, S2, S3, e, _⟩ := x
 exact ⟨_, _, _, _, _, _, _, _, e⟩
theorem AcG.form {base f : Nat} {S : Fp} {h : AH} {A : Ac} {cs : List Value} (x : AcG base f S h A cs) : ∃ p c a n b m g q, cs = acV p c a n b m g q := x.acD.form
theorem q5 {base t n : Nat} {h : AH} {p c : Int} {a b g : Option Addr} {x y z : Nat} (o : Own base t h (at0 n) (acV p c a x b y g z)) {β : Type} {f : Int → Int → Option Addr × Nat → Option Addr × Nat → Option Addr × Nat → Option β} {r : Option β} (hf : f p c (a, x) (b, y) (g, z) = r) :
  (((Am.cell h n 0).bind (getI .i64)).bind fun n1 => ((Am.cell h n 1).bind (getI .i64)).bind fun n2 => ((Am.cell h n 2).bind getS).bind fun l3 => ((Am.cell h n 3).bind getS).bind fun l4 => ((Am.cell h n 4).bind getS).bind fun l5 => f n1 n2 l3 l4 l5) = r :=
 bI (o.at0 (i := 0) rfl) (bI (o.at0 (i := 1) rfl) (bS (o.at0 (i := 2) rfl) (bS (o.at0 (i := 3) rfl) (bS (o.at0 (i := 4) rfl) hf))))
def IsMA (A : Ac) (k k' : Int) : Prop := ∃ k1 k2 : Int, IsM A.regs k k1 ∧ IsM A.box k1 k2 ∧ A.links = marksI k2.toNat A.links.length ∧ k' = k2 + (A.links.length : Int)
end Go.Proofs.Ytjmkbglnjklbcaa.Am
set_option linter.unusedSimpArgs false
set_option linter.unusedVariables false
namespace Go.Proofs.Ytjmkbglnjklbcaa.Am
open Go Go.RowKit
theorem W.q4 {base t n : Nat} {h : AH} {k nn : Int} {s : ByteArray} {a : Option Addr} {m : Nat} (o : Own base t h (at0 n) (termV k nn s a m)) {β : Type} {Q : β → Prop} {f : Int → Int → ByteArray → Option Addr × Nat → Option β} (w : Wp (f k nn s (a, m)) Q) :
  Wp (((Am.cell h n 0).bind (getI .i64)).bind fun n1 => ((Am.cell h n 1).bind (getI .i64)).bind fun n2 => ((Am.cell h n 2).bind getStr).bind fun s3 => ((Am.cell h n 3).bind getS).bind fun l4 => f n1 n2 s3 l4) Q :=
 W.bI (o.at0 (i := 0) rfl) (W.bI (o.at0 (i := 1) rfl) (W.bT (o.at0 (i := 2) rfl) (W.bS (o.at0 (i := 3) rfl) w)))
theorem W.q5 {base t n : Nat} {h : AH} {p c : Int} {a b g : Option Addr} {x y z : Nat} (o : Own base t h (at0 n) (acV p c a x b y g z)) {β : Type} {Q : β → Prop} {f : Int → Int → Option Addr × Nat → Option Addr × Nat → Option Addr × Nat → Option β} (w : Wp (f p c (a, x) (b, y) (g, z)) Q) :
  Wp (((Am.cell h n 0).bind (getI .i64)).bind fun n1 => ((Am.cell h n 1).bind (getI .i64)).bind fun n2 => ((Am.cell h n 2).bind getS).bind fun l3 => ((Am.cell h n 3).bind getS).bind fun l4 => ((Am.cell h n 4).bind getS).bind fun l5 => f n1 n2 l3 l4 l5) Q :=
 W.bI (o.at0 (i := 0) rfl) (W.bI (o.at0 (i := 1) rfl) (W.bS (o.at0 (i := 2) rfl) (W.bS (o.at0 (i := 3) rfl) (W.bS (o.at0 (i := 4) rfl) w))))
theorem W.g4 {k nn : Int} {s : ByteArray} {a : Option Addr} {m : Nat} {β : Type} {Q : β → Prop} {f : Int → Int → ByteArray → Option Addr × Nat → Option β} (w : Wp (f k nn s (a, m)) Q) :
  Wp (((some (Value.agg (termV k nn s a m).toArray)).bind (getAgg 4)).bind fun l => ((l[0]?).bind (getI .i64)).bind fun n1 => ((l[1]?).bind (getI .i64)).bind fun n2 => ((l[2]?).bind getStr).bind fun s3 => ((l[3]?).bind getS).bind fun l4 => f n1 n2 s3 l4) Q := w
theorem same_KB {S : Nat → Prop} {h h' : AH} (k : KB S h h') {b i n : Nat} (hb : b < h.length) (hS : ¬ S b) : sameA h h' (some ⟨b, i, none⟩) n := by
 intro ad e
 injection e with e
 subst e
 have hg := k.2 b hb hS
 exact ⟨fun j _ => by unfold Am.cell; simp only [hg], by simp only [hg]⟩
theorem ne_A {b o n : Nat} (h : b ≠ n) : neA (some ⟨b, o, none⟩) n := fun ad e => by
 injection e with e
 subst e
 exact h
end Go.Proofs.Ytjmkbglnjklbcaa.Am
set_option linter.unusedSimpArgs false
set_option linter.unusedVariables false
namespace Go.Proofs.Ytjmkbglnjklbcaa.Am
open Go Go.RowKit
def inB (x a b : Int) : Bool := decide (x ≥ a) && decide (x ≤ b)
theorem in_run {base : Nat} {h : AH} {x a b : Int} : run (Et base) 87 [.int .i64 x, .int .i64 a, .int .i64 b] h = some (.bool (inB x a b), h) := by
 refine Am.r87 ?_
 unfold inB
 by_cases c : x ≥ a
 ·exact ifT (decide_eq_true c) (by simp [c])
 ·exact ifF (by simpa using c) (by simp [c])
theorem l1In_run {base : Nat} {h : AH} {x a b : Int} : run (Et base) 83 [.int .i64 x, .int .i64 a, .int .i64 b] h = some (.bool (inB x a b), h) := by
 refine Am.r83 ?_
 unfold inB
 by_cases c : x ≥ a
 ·exact ifT (decide_eq_true c) (by simp [c])
 ·exact ifF (by simpa using c) (by simp [c])
theorem isSmall_run {base : Nat} {h : AH} {x : Int} : run (Et base) 182 [.int .u8 x] h = some (.bool (inB x 97 122), h) := by
 refine Am.r182 ?_
 unfold inB
 by_cases c : x ≥ 97
 ·exact ifT (decide_eq_true c) (by simp [c])
 ·exact ifF (by simpa using c) (by simp [c])
theorem isDigit_run {base : Nat} {h : AH} {x : Int} : run (Et base) 183 [.int .u8 x] h = some (.bool (inB x 48 57), h) := by
 refine Am.r183 ?_
 unfold inB
 by_cases c : x ≥ 48
 ·exact ifT (decide_eq_true c) (by simp [c])
 ·exact ifF (by simpa using c) (by simp [c])
def byt (s : ByteArray) (i : Nat) : Int := ((s.data.toList.getD i 0).toNat : Int)
def badAt (s : ByteArray) (i : Nat) : Bool := !inB (byt s i) 97 122 && (((i : Int) == 0) || !inB (byt s i) 48 57)
def anyBad (s : ByteArray) : Nat → Nat → Bool
 | 0, _ => false
 | d + 1, i => badAt s i || anyBad s d (i + 1)
def atomOk (s : ByteArray) : Bool := !anyBad s s.size 0 && inB (s.size : Int) 1 12
theorem implAtom_loop {base : Nat} {h : AH} {s : ByteArray} (hs : s.size ≤ 9223372036854775807) : ∀ (d i : Nat), i + d = s.size →
  loopL (B146_0 base) [some (.string s), some (.int .i64 (i : Int))] h = if anyBad s d i = true then some (1, [some (.bool false)], h) else some (2, [some (.string s)], h) := by
 intro d
 induction d with
 | zero =>
  intro i hi
  rw [loopL_eq, B146_0_eq]
  have : ¬ ((i : Int) < (s.size : Int)) := by omega
  simp [this, anyBad]
 | succ d ih =>
  intro i hi
  have step : B146_0 base [some (.string s), some (.int .i64 (i : Int))] h = if badAt s i = true then some (1, [some (.bool false)], h) else some (0, [some (.string s), some (.int .i64 ((i + 1 : Nat) : Int))], h) := by
   rw [B146_0_eq]
   refine ifT (decide_eq_true (by omega)) ?_
   refine bs (v := .inl ([some (.string s), some (.int .i64 (i : Int)), some (.bool (badAt s i))], h)) ?_ ?_
   ·refine ifT ⟨by omega, by omega⟩ ?_
    simp only [Int.toNat_natCast]
    refine bs isSmall_run (bB rfl ?_)
    unfold badAt byt
    cases inB (((s.data.toList.getD i 0).toNat : Nat) : Int) 97 122 with
    | true => exact ifF (by decide) (by simp)
    | false =>
     refine ifT rfl ?_
     by_cases c : ((i : Int) == (0 : Int)) = true
     ·exact ifT c (by simp [c])
     ·have c' : ((i : Int) == (0 : Int)) = false := by simpa using c
      refine ifF c (ifT ⟨by omega, by omega⟩ (bs isDigit_run (bB rfl ?_)))
      simp [c']
   ·refine jn (bT rfl (bI rfl (bB rfl ?_)))
    rw [w64i (by omega) (by omega), show ((i : Int) + 1) = ((i + 1 : Nat) : Int) from by omega]
  rw [loopL_eq, step]
  by_cases c : badAt s i = true
  ·simp [c, anyBad]
  ·have c' : badAt s i = false := by simpa using c
   simp only [c', Bool.false_eq_true, if_false, Option.bind_some, if_true, anyBad, Bool.false_or]
   exact ih (i + 1) (by omega)
theorem implAtomOk_run {base : Nat} {h : AH} {s : ByteArray} (hs : s.size ≤ 9223372036854775807) : run (Et base) 146 [.string s] h = some (.bool (atomOk s), h) := by
 have e := implAtom_loop (base := base) (h := h) hs s.size 0 (by omega)
 rw [show ((0 : Nat) : Int) = 0 from rfl] at e
 refine Am.r146 ?_
 unfold atomOk
 cases hb : anyBad s s.size 0 with
 | true =>
  rw [hb] at e
  exact bs e (ifT rfl (bB rfl rfl))
 | false =>
  rw [hb] at e
  exact bs e (ifF (by simp) (ifT rfl (bT rfl (bs in_run (bB rfl (by simp))))))
theorem w64b (s : ByteArray) (i : Nat) : IntKind.wrap .i64 ((s.data.toList.getD i 0).toNat : Int) = byt s i := by
 have := (s.data.toList.getD i 0).toNat_lt
 rw [w64i (by omega) (by omega)]
 rfl
theorem specAtom_loop {base : Nat} {h : AH} {s : ByteArray} (hs : s.size ≤ 9223372036854775807) : ∀ (d i : Nat), i + d = s.size →
  loopL (B139_0 base) [some (.string s), some (.int .i64 (i : Int))] h = if anyBad s d i = true then some (1, [some (.bool false)], h) else some (2, [some (.string s)], h) := by
 intro d
 induction d with
 | zero =>
  intro i hi
  rw [loopL_eq, B139_0_eq]
  have : ¬ ((i : Int) < (s.size : Int)) := by omega
  simp [this, anyBad]
 | succ d ih =>
  intro i hi
  have step : B139_0 base [some (.string s), some (.int .i64 (i : Int))] h = if badAt s i = true then some (1, [some (.bool false)], h) else some (0, [some (.string s), some (.int .i64 ((i + 1 : Nat) : Int))], h) := by
   rw [B139_0_eq]
   refine ifT (decide_eq_true (by omega)) (ifT ⟨by omega, by omega⟩ ?_)
   simp only [Int.toNat_natCast, w64b]
   refine bs l1In_run (bB rfl ?_)
   refine bs (v := .inl ([some (.string s), some (.int .i64 (i : Int)), some (.bool (badAt s i))], h)) ?_ ?_
   ·unfold badAt
    cases inB (byt s i) 97 122 with
    | true => exact ifF (by decide) (by simp)
    | false =>
     refine ifT rfl ?_
     by_cases c : ((i : Int) == (0 : Int)) = true
     ·exact ifT c (by simp [c])
     ·have c' : ((i : Int) == (0 : Int)) = false := by simpa using c
      refine ifF c (ifT ⟨by omega, by omega⟩ (bs l1In_run (bB rfl ?_)))
      simp [c']
   ·refine jn (bT rfl (bI rfl (bB rfl ?_)))
    rw [w64i (by omega) (by omega), show ((i : Int) + 1) = ((i + 1 : Nat) : Int) from by omega]
  rw [loopL_eq, step]
  by_cases c : badAt s i = true
  ·simp [c, anyBad]
  ·have c' : badAt s i = false := by simpa using c
   simp only [c', Bool.false_eq_true, if_false, Option.bind_some, if_true, anyBad, Bool.false_or]
   exact ih (i + 1) (by omega)
theorem specAtomOk_run {base : Nat} {h : AH} {s : ByteArray} (hs : s.size ≤ 9223372036854775807) : run (Et base) 139 [.string s] h = some (.bool (atomOk s), h) := by
 have e := specAtom_loop (base := base) (h := h) hs s.size 0 (by omega)
 rw [show ((0 : Nat) : Int) = 0 from rfl] at e
 refine Am.r139 ?_
 unfold atomOk
 cases hb : anyBad s s.size 0 with
 | true =>
  rw [hb] at e
  exact bs e (ifT rfl (bB rfl rfl))
 | false =>
  rw [hb] at e
  exact bs e (ifF (by simp) (ifT rfl (bT rfl (bs l1In_run (bB rfl (by simp))))))
def shB (k n : Int) (s : ByteArray) (m : Nat) : Bool :=
 if (k == (1 : Int)) = true then inB n (-1000000) 1000000 && (s.toList == (⟨#[]⟩ : ByteArray).toList) && (((m : Nat) : Int) == (0 : Int))
 else if (k == (2 : Int)) = true then (n == (0 : Int)) && atomOk s && (((m : Nat) : Int) == (0 : Int))
 else if (k == (3 : Int)) = true then inB n 0 99999 && (s.toList == (⟨#[]⟩ : ByteArray).toList) && (((m : Nat) : Int) == (0 : Int))
 else if (k == (4 : Int)) = true then (n == (0 : Int)) && (s.toList == (⟨#[]⟩ : ByteArray).toList) && decide (((m : Nat) : Int) ≤ (8 : Int))
 else if (k == (5 : Int)) = true then (n == (0 : Int)) && (s.toList == (⟨#[]⟩ : ByteArray).toList) && decide (((m : Nat) : Int) ≤ (20 : Int))
 else if (k == (6 : Int)) = true then (n == (0 : Int)) && decide ((s.size : Int) ≤ (40 : Int)) && (((m : Nat) : Int) == (0 : Int))
 else false
theorem an2 {β : Type} {c d : Bool} {x y : Option β} {g : Bool → Option β} (hx : c = true → x = g d) (hy : c = false → y = g false) : (if c = true then x else y) = g (c && d) := by
 cases c with
 | true => rw [if_pos rfl]; simpa using hx rfl
 | false => rw [if_neg (by decide)]; simpa using hy rfl
theorem sw {β : Type} {c : Prop} [Decidable c] {a b : Option β} {x y : Bool} {g : Bool → Option β} (ha : c → a = g x) (hb : ¬ c → b = g y) : (if c then a else b) = g (if c then x else y) := by
 by_cases h : c
 ·rw [if_pos h, if_pos h]; exact ha h
 ·rw [if_neg h, if_neg h]; exact hb h
theorem fieldsOk_run {base : Nat} {h : AH} {k n : Int} {s : ByteArray} {a : Option Addr} {m : Nat} (hs : s.size ≤ 9223372036854775807) (hb : base ≤ h.length) :
  ∃ h', run (Et base) 196 [.agg (termV k n s a m).toArray] h = some (.bool (shB k n s m), h') ∧ KB NoB h h' := by
 obtain ⟨o1, k1, q1⟩ := box_own (base := base) (t := 39) (h := h) (cs := termV k n s a m) hb rfl
 generalize hh1 : h ++ [some (⟨termV k n s a m, 39⟩ : Blk)] = h1' at o1 k1 q1
 refine ⟨h1', Am.r196 (lets fun h1'' eh => ?_), k1⟩
 rw [hh1] at eh
 subst eh
 have c0 := o1.at0 (i := 0) rfl
 have c1 := o1.at0 (i := 1) rfl
 have c2 := o1.at0 (i := 2) rfl
 have c3 := o1.at0 (i := 3) rfl
 let g : Bool → Option (Value × AH) := fun b => some (.bool b, h1'')
 change _ = g (shB k n s m)
 unfold shB
 refine bI c0 (sw (g := g) (fun _ => ?_) (fun _ => sw (g := g) (fun _ => ?_) (fun _ => sw (g := g) (fun _ => ?_) (fun _ => sw (g := g) (fun _ => ?_) (fun _ => sw (g := g) (fun _ => ?_) (fun _ => sw (g := g) (fun _ => ?_) (fun _ => rfl)))))))
 ·rw [Bool.and_assoc]
  exact bI c1 (bs in_run (bB rfl (an2 (g := g) (fun _ => bT c2 (an2 (g := g) (fun _ => bS c3 rfl) fun _ => rfl)) fun _ => rfl)))
 ·rw [Bool.and_assoc]
  exact bI c1 (an2 (g := g) (fun _ => bT c2 (bs (implAtomOk_run hs) (bB rfl (an2 (g := g) (fun _ => bS c3 rfl) fun _ => rfl)))) fun _ => rfl)
 ·rw [Bool.and_assoc]
  exact bI c1 (bs in_run (bB rfl (an2 (g := g) (fun _ => bT c2 (an2 (g := g) (fun _ => bS c3 rfl) fun _ => rfl)) fun _ => rfl)))
 ·rw [Bool.and_assoc]
  exact bI c1 (an2 (g := g) (fun _ => bT c2 (an2 (g := g) (fun _ => bS c3 rfl) fun _ => rfl)) fun _ => rfl)
 ·rw [Bool.and_assoc]
  exact bI c1 (an2 (g := g) (fun _ => bT c2 (an2 (g := g) (fun _ => bS c3 rfl) fun _ => rfl)) fun _ => rfl)
 ·rw [Bool.and_assoc]
  exact bI c1 (an2 (g := g) (fun _ => bT c2 (an2 (g := g) (fun _ => bS c3 rfl) fun _ => rfl)) fun _ => rfl)
theorem l1Shape_run {base : Nat} {h : AH} {k n : Int} {s : ByteArray} {a : Option Addr} {m : Nat} (hs : s.size ≤ 9223372036854775807) (hb : base ≤ h.length) :
  ∃ h', run (Et base) 173 [.agg (termV k n s a m).toArray] h = some (.bool (shB k n s m), h') ∧ KB NoB h h' := by
 obtain ⟨o1, k1, q1⟩ := box_own (base := base) (t := 39) (h := h) (cs := termV k n s a m) hb rfl
 generalize hh1 : h ++ [some (⟨termV k n s a m, 39⟩ : Blk)] = h1' at o1 k1 q1
 refine ⟨h1', Am.r173 (lets fun h1'' eh => ?_), k1⟩
 rw [hh1] at eh
 subst eh
 have c0 := o1.at0 (i := 0) rfl
 have c1 := o1.at0 (i := 1) rfl
 have c2 := o1.at0 (i := 2) rfl
 have c3 := o1.at0 (i := 3) rfl
 let g : Bool → Option (Value × AH) := fun b => some (.bool b, h1'')
 change _ = g (shB k n s m)
 unfold shB
 refine bS c3 (bI c0 (sw (g := g) (fun _ => ?_) (fun _ => sw (g := g) (fun _ => ?_) (fun _ => sw (g := g) (fun _ => ?_) (fun _ => sw (g := g) (fun _ => ?_) (fun _ => sw (g := g) (fun _ => ?_) (fun _ => sw (g := g) (fun _ => ?_) (fun _ => rfl))))))))
 ·rw [Bool.and_assoc]
  exact bI c1 (bs l1In_run (bB rfl (an2 (g := g) (fun _ => bT c2 (an2 (g := g) (fun _ => rfl) fun _ => rfl)) fun _ => rfl)))
 ·rw [Bool.and_comm (n == 0), Bool.and_assoc]
  exact bT c2 (bs (specAtomOk_run hs) (bB rfl (an2 (g := g) (fun _ => bI c1 (an2 (g := g) (fun _ => rfl) fun _ => rfl)) fun _ => rfl)))
 ·rw [Bool.and_assoc]
  exact bI c1 (bs l1In_run (bB rfl (an2 (g := g) (fun _ => bT c2 (an2 (g := g) (fun _ => rfl) fun _ => rfl)) fun _ => rfl)))
 ·rw [Bool.and_assoc]
  exact bI c1 (an2 (g := g) (fun _ => bT c2 (an2 (g := g) (fun _ => rfl) fun _ => rfl)) fun _ => rfl)
 ·rw [Bool.and_assoc]
  exact bI c1 (an2 (g := g) (fun _ => bT c2 (an2 (g := g) (fun _ => rfl) fun _ => rfl)) fun _ => rfl)
 ·rw [Bool.and_assoc]
  exact bI c1 (an2 (g := g) (fun _ => bT c2 (an2 (g := g) (fun _ => rfl) fun _ => rfl)) fun _ => rfl)
end Go.Proofs.Ytjmkbglnjklbcaa.Am
set_option linter.unusedSimpArgs false
set_option linter.unusedVariables false
namespace Go.Proofs.Ytjmkbglnjklbcaa.Am
open Go Go.RowKit
def lkS (g : Tm → Int → Int → Int) : List Tm → Int → Int → Int
 | [], _, left => left
 | t :: r, deep, left => if left ≥ 0 then lkS g r deep (g t deep left) else left
def lk : Nat → Tm → Int → Int → Int
 | 0, _, _, _ => -1
 | f + 1, .mk k n s l, deep, left => if deep < 1 ∨ left < 1 ∨ shB k n s l.length = false then -1 else lkS (lk f) l (deep - 1) (left - 1)
theorem lkS_neg (g : Tm → Int → Int → Int) (l : List Tm) (deep left : Int) (h : left < 0) : lkS g l deep left = left := by
 cases l with
 | nil => rfl
 | cons t r => rw [lkS, if_neg (by omega)]
theorem lkS_le {g : Tm → Int → Int → Int} (hg : ∀ t d x, 0 ≤ x → -1 ≤ g t d x ∧ g t d x ≤ x) : ∀ (l : List Tm) (deep left : Int), -1 ≤ left → -1 ≤ lkS g l deep left ∧ lkS g l deep left ≤ left
 | [], _, left, h => ⟨h, Int.le_refl _⟩
 | t :: r, deep, left, h => by
  rw [lkS]
  split
  ·rename_i h0
   have a := hg t deep left h0
   have b := lkS_le hg r deep (g t deep left) a.1
   exact ⟨b.1, by omega⟩
  ·exact ⟨h, Int.le_refl _⟩
theorem lk_le : ∀ (f : Nat) (t : Tm) (deep left : Int), 0 ≤ left → -1 ≤ lk f t deep left ∧ lk f t deep left ≤ left
 | 0, _, _, left, h => ⟨by simp [lk], by simp only [lk]; omega⟩
 | f + 1, .mk k n s l, deep, left, h => by
  rw [lk]
  split
  ·exact ⟨by omega, by omega⟩
  ·rename_i hn
   have := lkS_le (g := lk f) (fun t d x hx => lk_le f t d x hx) l (deep - 1) (left - 1) (by omega)
   exact ⟨this.1, by omega⟩
theorem q4 {base t n : Nat} {h : AH} {k nn : Int} {s : ByteArray} {a : Option Addr} {m : Nat} (o : Own base t h (at0 n) (termV k nn s a m)) {β : Type} {f : Int → Int → ByteArray → Option Addr × Nat → Option β} {z : Option β} (hf : f k nn s (a, m) = z) :
  (((Am.cell h n 0).bind (getI .i64)).bind fun n1 => ((Am.cell h n 1).bind (getI .i64)).bind fun n2 => ((Am.cell h n 2).bind getStr).bind fun s3 => ((Am.cell h n 3).bind getS).bind fun l4 => f n1 n2 s3 l4) = z :=
 bI (o.at0 (i := 0) rfl) (bI (o.at0 (i := 1) rfl) (bT (o.at0 (i := 2) rfl) (bS (o.at0 (i := 3) rfl) hf)))
def Look (base f : Nat) : Prop := ∀ (h : AH) (p : Nat → Prop) (t : Tm) (cs : List Value) (deep left : Int), TmR h p f t cs → base ≤ h.length → 0 ≤ deep → deep ≤ 6 → 0 ≤ left → left ≤ 100 →
 ∃ h', run (Et base) 131 [.agg cs.toArray, .int .i64 deep, .int .i64 left] h = some (.int .i64 (lk f t deep left), h') ∧ KB NoB h h'
def Coun (base f : Nat) : Prop := ∀ (h : AH) (p : Nat → Prop) (t : Tm) (cs : List Value) (deep left : Int), TmR h p f t cs → base ≤ h.length → 0 ≤ deep → deep ≤ 6 → 0 ≤ left → left ≤ 100 →
 ∃ z h', run (Et base) 162 [.agg cs.toArray, .int .i64 (7 - deep), .int .i64 (100 - left)] h = some (.tuple #[.int .i64 z, .bool (decide (lk f t deep left ≥ 0))], h') ∧ KB NoB h h' ∧ (lk f t deep left ≥ 0 → z = 100 - lk f t deep left)
theorem look_loop {base f ob : Nat} (ih : Look base f) {p : Nat → Prop} {l : List Tm} {a : Option Addr} {k n : Int} {s : ByteArray} (hl : l.length ≤ 9223372036854775807) {deep : Int} (hd0 : 1 ≤ deep) (hd1 : deep ≤ 6) : ∀ (d i : Nat) (h : AH) (left : Int), i + d = l.length → TsR h p f l a → Own base 39 h (at0 ob) (termV k n s a l.length) → base ≤ h.length → -1 ≤ left → left ≤ 100 →
  ∃ h', loopL (B131_0 base) [some (.int .i64 deep), some (.int .i64 left), some (.pointer (at0 ob)), some (.int .i64 (i : Int))] h = some (2, [some (.int .i64 (lkS (lk f) (l.drop i) (deep - 1) left))], h') ∧ KB NoB h h' := by
 intro d
 induction d with
 | zero =>
  intro i h left hi hs ow hb h0 h1
  refine ⟨h, ?_, KB.refl _ _⟩
  rw [show l.drop i = [] from List.drop_eq_nil_of_le (by omega)]
  refine loop_off (by decide) ?_
  rw [B131_0_eq]
  refine bj (q := ([some (.int .i64 deep), some (.int .i64 left), some (.pointer (at0 ob)), some (.int .i64 (i : Int)), some (.bool false)], h)) (bS (ow.at0 (i := 3) rfl) (ifF (by simp; omega) rfl)) ?_
  exact bI rfl (bI rfl (bs rfl (bI rfl (bB rfl (ifF (by decide) rfl)))))
 | succ d ihd =>
  intro i h left hi hs ow hb h0 h1
  have hlt : i < l.length := by omega
  rw [List.drop_eq_getElem_cons hlt, lkS]
  by_cases c : left ≥ 0
  ·rw [if_pos c]
   obtain ⟨ad, c0, c1, c2, c3, rfl, g0, g1, g2, g3, hm⟩ := hs.get hlt
   obtain ⟨h', e1, k1⟩ := ih h p l[i] _ (deep - 1) left hm hb (by omega) (by omega) (by omega) h1
   have le := lk_le f l[i] (deep - 1) left c
   obtain ⟨h'', e2, k2⟩ := ihd (i + 1) h' (lk f l[i] (deep - 1) left) (by omega) (hs.keep k1 fun _ _ h => h) (ow.keepN k1) (by have := k1.1; omega) (by omega) (by omega)
   refine ⟨h'', ?_, KB.trans k1 k2 (fun _ _ h => h) (fun _ _ h => h)⟩
   cases f with
   | zero => exact hm.elim
   | succ f =>
    generalize ht : l[i] = tt at hm e1 e2 le
    obtain ⟨kk, nn, ss, ll⟩ := tt
    obtain ⟨a2, ecs, _, _, _⟩ := hm.parts
    injection ecs with q0 ecs
    injection ecs with q1 ecs
    injection ecs with q2 ecs
    injection ecs with q3 _
    subst q0; subst q1; subst q2; subst q3
    refine loop_on ?_ e2
    rw [B131_0_eq]
    refine bj (q := ([some (.int .i64 deep), some (.int .i64 left), some (.pointer (at0 ob)), some (.int .i64 (i : Int)), some (.bool true)], h)) (bS (ow.at0 (i := 3) rfl) (ifT (decide_eq_true (by simp; omega)) (by simp [c]))) ?_
    refine bI rfl (bI rfl (bs rfl (bI rfl (bB rfl (ifT rfl ?_)))))
    refine bS (ow.at0 (i := 3) rfl) (ifT ⟨by omega, by simp; omega⟩ (bs rfl ?_))
    simp only [Int.toNat_natCast]
    refine bI g0 (bI g1 (bT g2 (bS g3 ?_)))
    rw [w64i (n := deep - 1) (by omega) (by omega)]
    refine bs e1 (bI rfl ?_)
    rw [w64i (by omega) (by omega), show ((i : Int) + 1) = ((i + 1 : Nat) : Int) from by omega]
  ·rw [if_neg c]
   refine ⟨h, ?_, KB.refl _ _⟩
   refine loop_off (by decide) ?_
   rw [B131_0_eq]
   refine bj (q := ([some (.int .i64 deep), some (.int .i64 left), some (.pointer (at0 ob)), some (.int .i64 (i : Int)), some (.bool false)], h)) (bS (ow.at0 (i := 3) rfl) (ifT (decide_eq_true (by simp; omega)) (by simp [c]))) ?_
   exact bI rfl (bI rfl (bs rfl (bI rfl (bB rfl (ifF (by decide) rfl)))))
theorem look_run {base : Nat} : ∀ f, Look base f
 | 0 => fun h p t cs deep left x => x.elim
 | f + 1 => fun h p t cs deep left x hb d0 d1 l0 l1 => by
  obtain ⟨k, n, s, l⟩ := t
  obtain ⟨a, rfl, hts, hs, hl⟩ := x.parts
  simp only [maxLen] at hs hl
  obtain ⟨o1, k1, q1⟩ := box_own (base := base) (t := 39) (h := h) (cs := termV k n s a l.length) hb rfl
  generalize hh1 : h ++ [some (⟨termV k n s a l.length, 39⟩ : Blk)] = h1' at o1 k1 q1
  obtain ⟨h2, e2, k2⟩ := l1Shape_run (base := base) (h := h1') (k := k) (n := n) (s := s) (a := a) (m := l.length) (by omega) (by omega)
  have n2 := k2.1
  have k02 : KB NoB h h2 := KB.trans k1 k2 (fun _ _ h => h) (fun _ _ h => h)
  have o2 := o1.keepN k2
  by_cases c1 : deep < 1
  ·rw [show lk (f + 1) (.mk k n s l) deep left = -1 from by rw [lk, if_pos (.inl c1)]]
   refine ⟨h1', Am.r131 (lets fun h1'' eh => ?_), k1⟩
   rw [hh1] at eh
   subst eh
   refine bj (q := ([some (.int .i64 deep), some (.int .i64 left), some (.pointer (at0 h.length)), some (.bool true)], h1'')) (ifT (decide_eq_true c1) rfl) ?_
   exact bI rfl (bI rfl (bs rfl (bB rfl (ifT rfl rfl))))
  by_cases c2 : left < 1
  ·rw [show lk (f + 1) (.mk k n s l) deep left = -1 from by rw [lk, if_pos (.inr (.inl c2))]]
   refine ⟨h1', Am.r131 (lets fun h1'' eh => ?_), k1⟩
   rw [hh1] at eh
   subst eh
   refine bj (q := ([some (.int .i64 deep), some (.int .i64 left), some (.pointer (at0 h.length)), some (.bool true)], h1'')) (ifF (by simpa using c1) (ifT (decide_eq_true c2) rfl)) ?_
   exact bI rfl (bI rfl (bs rfl (bB rfl (ifT rfl rfl))))
  cases c3 : shB k n s l.length with
  | false =>
   rw [show lk (f + 1) (.mk k n s l) deep left = -1 from by rw [lk, if_pos (.inr (.inr c3))]]
   refine ⟨h2, Am.r131 (lets fun h1'' eh => ?_), k02⟩
   rw [hh1] at eh
   subst eh
   rw [c3] at e2
   refine bj (q := ([some (.int .i64 deep), some (.int .i64 left), some (.pointer (at0 h.length)), some (.bool true)], h2)) (ifF (by simpa using c1) (ifF (by simpa using c2) (q4 o1 (bs e2 (bB rfl rfl))))) ?_
   exact bI rfl (bI rfl (bs rfl (bB rfl (ifT rfl rfl))))
  | true =>
   rw [c3] at e2
   obtain ⟨h3, e3, k3⟩ := look_loop (base := base) (look_run f) (p := p) (l := l) (a := a) (k := k) (n := n) (s := s) (by omega) (deep := deep) (by omega) (by omega) l.length 0 h2 (left - 1) (by omega) (hts.keep k02 fun _ _ h => h) o2 (by omega) (by omega) (by omega)
   rw [show lk (f + 1) (.mk k n s l) deep left = lkS (lk f) l (deep - 1) (left - 1) from by rw [lk, if_neg (by simp [c3]; omega)]]
   refine ⟨h3, Am.r131 (lets fun h1'' eh => ?_), KB.trans k02 k3 (fun _ _ h => h) (fun _ _ h => h)⟩
   rw [hh1] at eh
   subst eh
   refine bj (q := ([some (.int .i64 deep), some (.int .i64 left), some (.pointer (at0 h.length)), some (.bool false)], h2)) (ifF (by simpa using c1) (ifF (by simpa using c2) (q4 o1 (bs e2 (bB rfl rfl))))) ?_
   refine bI rfl (bI rfl (bs rfl (bB rfl (ifF (by decide) ?_))))
   rw [w64i (by omega) (by omega)]
   exact bs e3 (ifT rfl (bI rfl rfl))
theorem coun_loop {base f : Nat} (ih : Coun base f) {p : Nat → Prop} {l : List Tm} {a : Option Addr} (hl : l.length ≤ 9223372036854775807) (hp : ∀ b, p b → True) {deep : Int} (hd0 : 1 ≤ deep) (hd1 : deep ≤ 6) : ∀ (d i : Nat) (h : AH) (left : Int), i + d = l.length → TsR h p f l a → base ≤ h.length → 0 ≤ left → left ≤ 100 →
  ∃ z h', (loopL (B162_0 base) [some (.int .i64 (7 - deep)), some (.int .i64 (100 - left)), some (.slice a l.length l.length), some (.int .i64 (l.length : Int)), some (.int .i64 (i : Int))] h = if lkS (lk f) (l.drop i) (deep - 1) left ≥ 0 then some (2, [some (.int .i64 z)], h') else some (1, [some (.int .i64 z), some (.bool false)], h')) ∧ KB NoB h h' ∧ (lkS (lk f) (l.drop i) (deep - 1) left ≥ 0 → z = 100 - lkS (lk f) (l.drop i) (deep - 1) left) := by
 intro d
 induction d with
 | zero =>
  intro i h left hi hs hb h0 h1
  refine ⟨100 - left, h, ?_, KB.refl _ _, ?_⟩
  ·rw [show l.drop i = [] from List.drop_eq_nil_of_le (by omega), lkS, if_pos (by omega)]
   refine loop_off (by decide) ?_
   rw [B162_0_eq]
   exact ifF (by simp; omega) rfl
  ·rw [show l.drop i = [] from List.drop_eq_nil_of_le (by omega), lkS]
   exact fun _ => rfl
 | succ d ihd =>
  intro i h left hi hs hb h0 h1
  have hlt : i < l.length := by omega
  rw [List.drop_eq_getElem_cons hlt, lkS, if_pos (by omega)]
  obtain ⟨ad, c0, c1, c2, c3, rfl, g0, g1, g2, g3, hm⟩ := hs.get hlt
  cases f with
  | zero => exact hm.elim
  | succ f =>
   generalize ht : l[i] = tt at hm
   obtain ⟨kk, nn, ss, ll⟩ := tt
   obtain ⟨a2, ecs, _, _, _⟩ := hm.parts
   injection ecs with q0 ecs
   injection ecs with q1 ecs
   injection ecs with q2 ecs
   injection ecs with q3 _
   subst q0; subst q1; subst q2; subst q3
   obtain ⟨o1, k1, q1⟩ := box_own (base := base) (t := 39) (h := h) (cs := termV kk nn ss a2 ll.length) hb rfl
   generalize hh1 : h ++ [some (⟨termV kk nn ss a2 ll.length, 39⟩ : Blk)] = h1' at o1 k1 q1
   obtain ⟨z, h', e1, k2, hz⟩ := ih h1' p _ _ (deep - 1) left (TmR.keep k1 (fun _ _ h => h) _ _ _ hm) (by omega) (by omega) (by omega) (by omega) h1
   have kk2 : KB NoB h h' := KB.trans k1 k2 (fun _ _ h => h) (fun _ _ h => h)
   have le := lk_le (f + 1) (.mk kk nn ss ll) (deep - 1) left h0
   by_cases c : lk (f + 1) (.mk kk nn ss ll) (deep - 1) left ≥ 0
   ·obtain ⟨z2, h'', e2, k3, hz2⟩ := ihd (i + 1) h' (lk (f + 1) (.mk kk nn ss ll) (deep - 1) left) (by omega) (hs.keep kk2 fun _ _ h => h) (by have := kk2.1; omega) c (by omega)
    refine ⟨z2, h'', ?_, KB.trans kk2 k3 (fun _ _ h => h) (fun _ _ h => h), hz2⟩
    have hzz := hz c
    refine loop_on ?_ e2
    rw [B162_0_eq]
    refine ifT (decide_eq_true (by omega)) (ifT ⟨by omega, by omega⟩ (bs rfl ?_))
    simp only [Int.toNat_natCast]
    refine bI g0 (bI g1 (bT g2 (bS g3 (nw hb rfl fun y ey => ?_))))
    rw [hh1] at ey
    subst ey
    rw [w64i (n := 7 - deep + 1) (by omega) (by omega), show (7 : Int) - deep + 1 = 7 - (deep - 1) from by omega]
    refine q4 o1 (bs e1 (bs rfl (bI rfl (bB rfl (ifF (by simp; omega) ?_)))))
    rw [w64i (by omega) (by omega), show ((i : Int) + 1) = ((i + 1 : Nat) : Int) from by omega, hzz]
   ·refine ⟨z, h', ?_, kk2, fun hh => ?_⟩
    ·rw [lkS_neg _ _ _ _ (by omega), if_neg (by omega)]
     refine loop_off (by decide) ?_
     rw [B162_0_eq]
     refine ifT (decide_eq_true (by omega)) (ifT ⟨by omega, by omega⟩ (bs rfl ?_))
     simp only [Int.toNat_natCast]
     refine bI g0 (bI g1 (bT g2 (bS g3 (nw hb rfl fun y ey => ?_))))
     rw [hh1] at ey
     subst ey
     rw [w64i (n := 7 - deep + 1) (by omega) (by omega), show (7 : Int) - deep + 1 = 7 - (deep - 1) from by omega]
     exact q4 o1 (bs e1 (bs rfl (bI rfl (bB rfl (ifT (by simp; omega) rfl)))))
    ·rw [lkS_neg _ _ _ _ (by omega)] at hh
     omega
theorem coun_run {base : Nat} : ∀ f, Coun base f
 | 0 => fun h p t cs deep left x => x.elim
 | f + 1 => fun h p t cs deep left x hb d0 d1 l0 l1 => by
  obtain ⟨k, n, s, l⟩ := t
  obtain ⟨a, rfl, hts, hs, hl⟩ := x.parts
  simp only [maxLen] at hs hl
  obtain ⟨o1, k1, q1⟩ := box_own (base := base) (t := 39) (h := h) (cs := termV k n s a l.length) hb rfl
  generalize hh1 : h ++ [some (⟨termV k n s a l.length, 39⟩ : Blk)] = h1' at o1 k1 q1
  obtain ⟨h2, e2, k2⟩ := fieldsOk_run (base := base) (h := h1') (k := k) (n := n) (s := s) (a := a) (m := l.length) (by omega) (by omega)
  have n2 := k2.1
  have k02 : KB NoB h h2 := KB.trans k1 k2 (fun _ _ h => h) (fun _ _ h => h)
  have o2 := o1.keepN k2
  have w : IntKind.wrap .i64 (100 - left + 1) = 100 - (left - 1) := by rw [w64i (by omega) (by omega)]; omega
  by_cases c1 : deep < 1
  ·rw [show lk (f + 1) (.mk k n s l) deep left = -1 from by rw [lk, if_pos (.inl c1)]]
   refine ⟨100 - (left - 1), h1', Am.r162 (lets fun h1'' eh => ?_), k1, fun hh => absurd hh (by decide)⟩
   rw [hh1] at eh
   subst eh
   rw [w]
   refine bj (q := ([some (.int .i64 (7 - deep)), some (.int .i64 (100 - (left - 1))), some (.pointer (at0 h.length)), some (.bool true)], h1'')) (ifT (decide_eq_true (by omega)) rfl) ?_
   exact bI rfl (bI rfl (bs rfl (bB rfl (ifT rfl rfl))))
  by_cases c2 : left < 1
  ·rw [show lk (f + 1) (.mk k n s l) deep left = -1 from by rw [lk, if_pos (.inr (.inl c2))]]
   refine ⟨100 - (left - 1), h1', Am.r162 (lets fun h1'' eh => ?_), k1, fun hh => absurd hh (by decide)⟩
   rw [hh1] at eh
   subst eh
   rw [w]
   refine bj (q := ([some (.int .i64 (7 - deep)), some (.int .i64 (100 - (left - 1))), some (.pointer (at0 h.length)), some (.bool true)], h1'')) (ifF (by simp; omega) (ifT (decide_eq_true (by omega)) rfl)) ?_
   exact bI rfl (bI rfl (bs rfl (bB rfl (ifT rfl rfl))))
  cases c3 : shB k n s l.length with
  | false =>
   rw [c3] at e2
   rw [show lk (f + 1) (.mk k n s l) deep left = -1 from by rw [lk, if_pos (.inr (.inr c3))]]
   refine ⟨100 - (left - 1), h2, Am.r162 (lets fun h1'' eh => ?_), k02, fun hh => absurd hh (by decide)⟩
   rw [hh1] at eh
   subst eh
   rw [w]
   refine bj (q := ([some (.int .i64 (7 - deep)), some (.int .i64 (100 - (left - 1))), some (.pointer (at0 h.length)), some (.bool true)], h2)) (ifF (by simp; omega) (ifF (by simp; omega) (q4 o1 (bs e2 (bB rfl rfl))))) ?_
   exact bI rfl (bI rfl (bs rfl (bB rfl (ifT rfl rfl))))
  | true =>
   rw [c3] at e2
   obtain ⟨z, h3, e3, k3, hz⟩ := coun_loop (base := base) (coun_run f) (p := p) (l := l) (a := a) (by omega) (fun _ _ => trivial) (deep := deep) (by omega) (by omega) l.length 0 h2 (left - 1) (by omega) (hts.keep k02 fun _ _ h => h) (by omega) (by omega) (by omega)
   rw [List.drop_zero] at e3 hz
   rw [show lk (f + 1) (.mk k n s l) deep left = lkS (lk f) l (deep - 1) (left - 1) from by rw [lk, if_neg (by simp [c3]; omega)]]
   refine ⟨z, h3, Am.r162 (lets fun h1'' eh => ?_), KB.trans k02 k3 (fun _ _ h => h) (fun _ _ h => h), hz⟩
   rw [hh1] at eh
   subst eh
   rw [w]
   refine bj (q := ([some (.int .i64 (7 - deep)), some (.int .i64 (100 - (left - 1))), some (.pointer (at0 h.length)), some (.bool false)], h2)) (ifF (by simp; omega) (ifF (by simp; omega) (q4 o1 (bs e2 (bB rfl rfl))))) ?_
   refine bI rfl (bI rfl (bs rfl (bB rfl (ifF (by decide) (bS (o2.at0 (i := 3) rfl) ?_)))))
   by_cases cc : lkS (lk f) l (deep - 1) (left - 1) ≥ 0
   ·rw [if_pos cc] at e3
    rw [decide_eq_true cc]
    exact bs e3 (ifF (by simp) (ifT rfl (bI rfl rfl)))
   ·rw [if_neg cc] at e3
    rw [decide_eq_false cc]
    exact bs e3 (ifT rfl (bI rfl (bB rfl rfl)))
def tOk (f : Nat) (t : Tm) : Bool := decide (lk f t 6 100 ≥ 0)
theorem specTermOk_run {base f : Nat} {h : AH} {p : Nat → Prop} {k n : Int} {s : ByteArray} {a : Option Addr} {m : Nat} {t : Tm} (hm : TmR h p f t (termV k n s a m)) (hb : base ≤ h.length) :
  ∃ h', run (Et base) 70 [.agg (termV k n s a m).toArray] h = some (.bool (tOk f t), h') ∧ KB NoB h h' := by
 obtain ⟨o1, k1, q1⟩ := box_own (base := base) (t := 39) (h := h) (cs := termV k n s a m) hb rfl
 generalize hh1 : h ++ [some (⟨termV k n s a m, 39⟩ : Blk)] = h1' at o1 k1 q1
 obtain ⟨h2, e2, k2⟩ := look_run (base := base) f h1' p t _ 6 100 (TmR.keep k1 (fun _ _ h => h) _ _ _ hm) (by omega) (by omega) (by omega) (by omega) (by omega)
 refine ⟨h2, Am.r70 (lets fun h1'' eh => ?_), KB.trans k1 k2 (fun _ _ h => h) (fun _ _ h => h)⟩
 rw [hh1] at eh
 subst eh
 exact q4 o1 (bs e2 (bI rfl rfl))
theorem implTermOk_run {base f : Nat} {h : AH} {p : Nat → Prop} {k n : Int} {s : ByteArray} {a : Option Addr} {m : Nat} {t : Tm} (hm : TmR h p f t (termV k n s a m)) (hb : base ≤ h.length) :
  ∃ h', run (Et base) 102 [.agg (termV k n s a m).toArray] h = some (.bool (tOk f t), h') ∧ KB NoB h h' := by
 obtain ⟨o1, k1, q1⟩ := box_own (base := base) (t := 39) (h := h) (cs := termV k n s a m) hb rfl
 generalize hh1 : h ++ [some (⟨termV k n s a m, 39⟩ : Blk)] = h1' at o1 k1 q1
 obtain ⟨z, h2, e2, k2, _⟩ := coun_run (base := base) f h1' p t _ 6 100 (TmR.keep k1 (fun _ _ h => h) _ _ _ hm) (by omega) (by omega) (by omega) (by omega) (by omega)
 refine ⟨h2, Am.r102 (lets fun h1'' eh => ?_), KB.trans k1 k2 (fun _ _ h => h) (fun _ _ h => h)⟩
 rw [hh1] at eh
 subst eh
 exact q4 o1 (bs e2 (bs rfl (bI rfl (bB rfl rfl))))
end Go.Proofs.Ytjmkbglnjklbcaa.Am
set_option linter.unusedSimpArgs false
set_option linter.unusedVariables false
namespace Go.Proofs.Ytjmkbglnjklbcaa.Am
open Go Go.RowKit
def AcB (f : Nat) (A : Ac) : Prop := A.regs.length ≤ 1048576 ∧ A.box.length ≤ 1048576 ∧ A.links.length ≤ 1048576 ∧ (∀ t ∈ A.regs, TmB f t) ∧ (∀ t ∈ A.box, TmB f t)
def AcM (A : Ac) : Prop := A.regs.length ≤ 9223372036854775807 ∧ A.box.length ≤ 9223372036854775807 ∧ A.links.length ≤ 9223372036854775807
theorem AcB.M {f : Nat} {A : Ac} (x : AcB f A) : AcM A := by
 obtain ⟨h1, h2, h3, _, _⟩ := x
 exact ⟨by omega, by omega, by omega⟩
theorem AcB.Le {f : Nat} {A : Ac} (x : AcB f A) : A.Le := by
 obtain ⟨h1, h2, h3, _, _⟩ := x
 exact ⟨by simp only [maxLen]; omega, by simp only [maxLen]; omega, by omega⟩
end Go.Proofs.Ytjmkbglnjklbcaa.Am
set_option linter.unusedSimpArgs false
set_option linter.unusedVariables false
namespace Go.Proofs.Ytjmkbglnjklbcaa.Am
open Go Go.RowKit
structure In where
 op : Int
 a : Int
 b : Int
 c : Int
 n : Int
 s : ByteArray
abbrev inV (x : In) : List Value := [.int .i64 x.op, .int .i64 x.a, .int .i64 x.b, .int .i64 x.c, .int .i64 x.n, .string x.s]
def insR : List In → List Value
 | [] => []
 | x :: r => inV x ++ insR r
theorem insR_len : ∀ l : List In, (insR l).length = l.length * 6
 | [] => rfl
 | x :: r => by simp only [insR, List.length_append, insR_len r, List.length_cons, List.length_nil]; omega
theorem insR_app : ∀ l r : List In, insR (l ++ r) = insR l ++ insR r
 | [], r => rfl
 | x :: l, r => by simp only [List.cons_append, insR, insR_app l r, List.append_assoc]
theorem insR_get : ∀ {l : List In} {i j : Nat} {x : In}, l[i]? = some x → j < 6 → (insR l)[i * 6 + j]? = (inV x)[j]?
 | [], i, j, x, h, _ => by simp at h
 | y :: r, 0, j, x, h, hj => by
  simp at h
  subst h
  rw [insR, List.getElem?_append_left (by simp; omega)]
  simp
 | y :: r, i + 1, j, x, h, hj => by
  rw [insR, List.getElem?_append_right (by simp; omega)]
  simp only [List.getElem?_cons_succ] at h
  rw [show (i + 1) * 6 + j - (inV y).length = i * 6 + j from by simp; omega]
  exact insR_get h hj
theorem In.get {h : AH} {a : Option Addr} {l : List In} (x : Sl h a (insR l)) {i : Nat} (hi : i < l.length) :
  ∃ ad, a = some ad ∧ Am.cell h ad.block (ad.off + i * 6) = some (.int .i64 l[i].op) ∧ Am.cell h ad.block (ad.off + i * 6 + 1) = some (.int .i64 l[i].a) ∧ Am.cell h ad.block (ad.off + i * 6 + 1 + 1) = some (.int .i64 l[i].b) ∧ Am.cell h ad.block (ad.off + i * 6 + 1 + 1 + 1) = some (.int .i64 l[i].c) ∧
   Am.cell h ad.block (ad.off + i * 6 + 1 + 1 + 1 + 1) = some (.int .i64 l[i].n) ∧ Am.cell h ad.block (ad.off + i * 6 + 1 + 1 + 1 + 1 + 1) = some (.string l[i].s) := by
 have g := fun (j : Nat) (v : Value) (hj : j < 6) (hv : (inV l[i])[j]? = some v) => x.cell ((insR_get (List.getElem?_eq_getElem hi) hj).trans hv)
 obtain ⟨ad, rfl, g0⟩ := g 0 _ (by decide) rfl
 obtain ⟨ad1, e, g1⟩ := g 1 _ (by decide) rfl
 injection e with e; subst e
 obtain ⟨ad1, e, g2⟩ := g 2 _ (by decide) rfl
 injection e with e; subst e
 obtain ⟨ad1, e, g3⟩ := g 3 _ (by decide) rfl
 injection e with e; subst e
 obtain ⟨ad1, e, g4⟩ := g 4 _ (by decide) rfl
 injection e with e; subst e
 obtain ⟨ad1, e, g5⟩ := g 5 _ (by decide) rfl
 injection e with e; subst e
 exact ⟨ad, rfl, g0, by rw [Nat.add_assoc]; exact g1, by rw [Nat.add_assoc, Nat.add_assoc]; exact g2, by rw [Nat.add_assoc, Nat.add_assoc, Nat.add_assoc]; exact g3, by rw [Nat.add_assoc, Nat.add_assoc, Nat.add_assoc, Nat.add_assoc]; exact g4, by rw [Nat.add_assoc, Nat.add_assoc, Nat.add_assoc, Nat.add_assoc, Nat.add_assoc]; exact g5⟩
theorem qi {base t n : Nat} {h : AH} {x : In} (o : Own base t h (at0 n) (inV x)) {β : Type} {f : Int → Int → Int → Int → Int → ByteArray → Option β} {r : Option β} (hf : f x.op x.a x.b x.c x.n x.s = r) :
  (((Am.cell h n 0).bind (getI .i64)).bind fun n1 => ((Am.cell h n 1).bind (getI .i64)).bind fun n2 => ((Am.cell h n 2).bind (getI .i64)).bind fun n3 => ((Am.cell h n 3).bind (getI .i64)).bind fun n4 => ((Am.cell h n 4).bind (getI .i64)).bind fun n5 => ((Am.cell h n 5).bind getStr).bind fun s6 => f n1 n2 n3 n4 n5 s6) = r :=
 bI (o.at0 (i := 0) rfl) (bI (o.at0 (i := 1) rfl) (bI (o.at0 (i := 2) rfl) (bI (o.at0 (i := 3) rfl) (bI (o.at0 (i := 4) rfl) (bT (o.at0 (i := 5) rfl) hf)))))
end Go.Proofs.Ytjmkbglnjklbcaa.Am
set_option linter.unusedSimpArgs false
set_option linter.unusedVariables false
namespace Go.Proofs.Ytjmkbglnjklbcaa.Am
open Go Go.RowKit
theorem itB {c : Bool} {A B : Option (Value × AH)} {x y : Bool} {h : AH} (hA : A = some (.bool x, h)) (hB : B = some (.bool y, h)) : (if c = true then A else B) = some (.bool (if c = true then x else y), h) := by
 cases c
 ·rw [if_neg (by decide), if_neg (by decide)]; exact hB
 ·rw [if_pos rfl, if_pos rfl]; exact hA
theorem itJ {β : Type} {c : Bool} {A B : Option (Sum (Slots × AH) β)} (s : Bool → Slots) {x y : Bool} {h : AH} (hA : A = some (.inl (s x, h))) (hB : B = some (.inl (s y, h))) : (if c = true then A else B) = some (.inl (s (if c = true then x else y), h)) := by
 cases c
 ·rw [if_neg (by decide), if_neg (by decide)]; exact hB
 ·rw [if_pos rfl, if_pos rfl]; exact hA
theorem orZ {β : Type} {b : Bool} {y : Option Value} {z : Int} (hy : y = some (.int .i64 z)) {T F r : Option β} (hT : (b || z == 0) = true → T = r) (hF : (b || z == 0) = false → F = r) :
  (if b = true then T else (y.bind (getI .i64)).bind fun n => if (n == (0 : Int)) = true then T else F) = r := by
 cases b with
 | true => exact ifT rfl (hT rfl)
 | false =>
  refine ifF (by decide) (bI hy ?_)
  cases hz : z == 0 with
  | true => exact ifT rfl (hT (by rw [hz]; rfl))
  | false => exact ifF (by decide) (hF (by rw [hz]; rfl))
def shp (op : Int) : ByteArray :=
 if op = 1 then ⟨#[65, 78]⟩ else if op = 2 then ⟨#[65, 83]⟩ else if op = 3 ∨ op = 7 ∨ op = 8 ∨ op = 13 then ⟨#[65, 66]⟩ else if op = 4 ∨ op = 6 ∨ op = 10 ∨ op = 11 ∨ op = 16 then ⟨#[65, 66, 78]⟩
 else if op = 5 ∨ op = 9 then ⟨#[65, 66, 67]⟩ else if op = 12 then ⟨#[78]⟩ else if op = 14 ∨ op = 15 ∨ op = 17 ∨ op = 18 ∨ op = 19 ∨ op = 20 then ⟨#[65]⟩ else ⟨#[]⟩
theorem op_cases {op : Int} (h : 1 ≤ op ∧ op ≤ 20) : op = 1 ∨ op = 2 ∨ op = 3 ∨ op = 4 ∨ op = 5 ∨ op = 6 ∨ op = 7 ∨ op = 8 ∨ op = 9 ∨ op = 10 ∨ op = 11 ∨ op = 12 ∨ op = 13 ∨ op = 14 ∨ op = 15 ∨ op = 16 ∨ op = 17 ∨ op = 18 ∨ op = 19 ∨ op = 20 := by omega
theorem shp_out {op : Int} (h : ¬ (1 ≤ op ∧ op ≤ 20)) : shp op = ⟨#[]⟩ := by
 unfold shp
 rw [if_neg (by omega), if_neg (by omega), if_neg (by omega), if_neg (by omega), if_neg (by omega), if_neg (by omega), if_neg (by omega)]
theorem shapeOf_run {base : Nat} {h : AH} {op : Int} : run (Et base) 213 [.int .i64 op] h = some (.string (shp op), h) := by
 by_cases c : 1 ≤ op ∧ op ≤ 20
 ·rcases op_cases c with rfl | rfl | rfl | rfl | rfl | rfl | rfl | rfl | rfl | rfl | rfl | rfl | rfl | rfl | rfl | rfl | rfl | rfl | rfl | rfl <;> exact Am.r213 rfl
 ·have ne : ∀ k : Int, 1 ≤ k → k ≤ 20 → (op == k) = false := fun k h1 h2 => by
   rw [beq_eq_false_iff_ne]; omega
  rw [shp_out c]
  refine Am.r213 ?_
  try unfold qf213
  rw [ne 1 (by decide) (by decide), ne 2 (by decide) (by decide), ne 3 (by decide) (by decide), ne 7 (by decide) (by decide), ne 8 (by decide) (by decide), ne 13 (by decide) (by decide)]
  refine ifF (by decide) (ifF (by decide) (bj _ (ifF (by decide) (ifF (by decide) (ifF (by decide) rfl))) (bI rfl (bB rfl (ifF (by decide) ?_)))))
  rw [ne 4 (by decide) (by decide), ne 6 (by decide) (by decide), ne 10 (by decide) (by decide), ne 11 (by decide) (by decide), ne 16 (by decide) (by decide)]
  refine bj _ (ifF (by decide) (ifF (by decide) (ifF (by decide) (ifF (by decide) rfl)))) (bI rfl (bB rfl (ifF (by decide) ?_)))
  rw [ne 5 (by decide) (by decide), ne 9 (by decide) (by decide)]
  refine bj _ (ifF (by decide) rfl) (bI rfl (bB rfl (ifF (by decide) ?_)))
  rw [ne 12 (by decide) (by decide), ne 14 (by decide) (by decide), ne 15 (by decide) (by decide), ne 17 (by decide) (by decide), ne 18 (by decide) (by decide), ne 19 (by decide) (by decide), ne 20 (by decide) (by decide)]
  exact ifF (by decide) (bj _ (ifF (by decide) (ifF (by decide) (ifF (by decide) (ifF (by decide) (ifF (by decide) rfl))))) (bB rfl (ifF (by decide) rfl)))
def hasB (s : ByteArray) (c : Int) : Bool := decide (firstIdx s (Nat.toUInt8 (Int.toNat c)) ≥ (0 : Int))
theorem has_run {base : Nat} {h : AH} {ad : Addr} {s : ByteArray} {c : Int} (g : Am.cell h ad.block ad.off = some (.string s)) : run (Et base) 214 [.int .u8 c, .pointer (some ad)] h = some (.bool (hasB s c), h) := by
 have e1 : run (Et base) 223 [.string s, .int .u8 c] h = some (.int .i64 (firstIdx s (Nat.toUInt8 (Int.toNat c))), h) := Am.r223 rfl
 have e2 : run (Et base) 215 [.string s, .int .u8 c] h = some (.int .i64 (firstIdx s (Nat.toUInt8 (Int.toNat c))), h) := Am.r215 (bs e1 (bI rfl rfl))
 exact Am.r214 (bT g (bs e2 (bI rfl rfl)))
abbrev emp (s : ByteArray) : Bool := s.toList == (⟨#[]⟩ : ByteArray).toList
def onlyN (x : In) : Bool := !emp (shp x.op) && ((hasB (shp x.op) 65 || x.a == 0) && ((hasB (shp x.op) 66 || x.b == 0) && ((hasB (shp x.op) 67 || x.c == 0) && ((hasB (shp x.op) 78 || x.n == 0) && (hasB (shp x.op) 83 || emp x.s)))))
theorem onlyNamed_run {base : Nat} {h : AH} {x : In} (hb : base ≤ h.length) : ∃ h', run (Et base) 194 [.agg (inV x).toArray] h = some (.bool (onlyN x), h') ∧ KB NoB h h' := by
 obtain ⟨o1, k1, q1⟩ := box_own (base := base) (t := 139) (h := h) (cs := inV x) hb rfl
 generalize hh1 : h ++ [some (⟨inV x, 139⟩ : Blk)] = h1 at o1 k1 q1
 obtain ⟨o2, k2, q2⟩ := box_own (base := base) (t := 9) (h := h1) (cs := [.string (shp x.op)]) (by omega) rfl
 generalize hh2 : h1 ++ [some (⟨[.string (shp x.op)], 9⟩ : Blk)] = h2 at o2 k2 q2
 have o1 := o1.keepN k2
 refine ⟨h2, Am.r194 (lets fun y ey => ?_), kN k1 k2⟩
 rw [hh1] at ey
 rw [ey]
 refine bI ((Own.at0 (i := 0) (v := .int .i64 x.op) (by rw [← hh1]; exact Own.new base _ h _ hb) rfl)) (bs shapeOf_run (bT rfl (nw (show base ≤ h1.length by omega) rfl fun y ey => ?_)))
 rw [hh2] at ey
 rw [ey]
 have hr := fun c => has_run (base := base) (h := h2) (ad := ⟨h1.length, 0, none⟩) (s := shp x.op) (c := c) (o2.at0 (i := 0) rfl)
 refine bT (o2.at0 (i := 0) rfl) ?_
 cases c0 : emp (shp x.op) with
 | true =>
  rw [show onlyN x = false by unfold onlyN; rw [c0]; rfl]
  unfold emp at c0
  rw [c0]
  exact ifF (by decide) rfl
 | false =>
  have c0' := c0
  unfold emp at c0
  rw [c0]
  refine ifT rfl (bs (bs (hr 65) (bB rfl rfl)) (bB rfl ?_))
  refine orZ (o1.at0 (i := 1) rfl) (fun c1 => ?_) (fun c1 => by unfold onlyN; rw [c0', c1]; rfl)
  refine bs (bs (hr 66) (bB rfl rfl)) (bB rfl ?_)
  refine orZ (o1.at0 (i := 2) rfl) (fun c2 => ?_) (fun c2 => by unfold onlyN; rw [c0', c1, c2]; rfl)
  refine bs (bs (hr 67) (bB rfl rfl)) (bB rfl ?_)
  refine orZ (o1.at0 (i := 3) rfl) (fun c3 => ?_) (fun c3 => by unfold onlyN; rw [c0', c1, c2, c3]; rfl)
  refine bs (bs (hr 78) (bB rfl rfl)) (bB rfl ?_)
  refine orZ (o1.at0 (i := 4) rfl) (fun c4 => ?_) (fun c4 => by unfold onlyN; rw [c0', c1, c2, c3, c4]; rfl)
  refine bs (bs (hr 83) (bB rfl rfl)) (bB rfl ?_)
  have e : onlyN x = (hasB (shp x.op) 83 || emp x.s) := by unfold onlyN; rw [c0', c1, c2, c3, c4]; rfl
  rw [e]
  cases hasB (shp x.op) 83 with
  | true => exact ifT rfl rfl
  | false => exact ifF (by decide) (bT (o1.at0 (i := 5) rfl) rfl)
def tailI (x : In) (n : Int) : Bool :=
 if (x.op == (1 : Int)) = true then inB x.n (-1000000) 1000000 else if (x.op == (2 : Int)) = true then atomOk x.s else if (x.op == (4 : Int)) = true then (if inB x.n 0 8 = true then decide (IntKind.wrap .i64 (x.b + x.n) ≤ (8 : Int)) else false)
 else if (x.op == (6 : Int)) = true then inB x.n 0 7 else if (x.op == (11 : Int)) = true then (if inB x.b 1 6 = true then inB x.n 0 (IntKind.wrap .i64 (n - 1)) else false)
 else if (if (x.op == (10 : Int)) = true then (x.op == (10 : Int)) else (if (x.op == (12 : Int)) = true then (x.op == (12 : Int)) else (x.op == (16 : Int)))) = true then inB x.n 0 (IntKind.wrap .i64 (n - 1)) else true
def implB (x : In) (n : Int) : Bool := inB n 1 200 && (onlyN x && (inB x.a 0 7 && (inB x.b 0 7 && (inB x.c 0 7 && tailI x n))))
theorem isReg_run {base : Nat} {h : AH} {v : Int} : run (Et base) 195 [.int .i64 v] h = some (.bool (inB v 0 7), h) := Am.r195 (bs in_run (bB rfl rfl))
theorem implInsOk_run {base : Nat} {h : AH} {x : In} {n : Int} (hs : x.s.size ≤ 9223372036854775807) (hb : base ≤ h.length) : ∃ h', run (Et base) 159 [.agg (inV x).toArray, .int .i64 n] h = some (.bool (implB x n), h') ∧ KB NoB h h' := by
 obtain ⟨o1, k1, q1⟩ := box_own (base := base) (t := 139) (h := h) (cs := inV x) hb rfl
 generalize hh1 : h ++ [some (⟨inV x, 139⟩ : Blk)] = h1 at o1 k1 q1
 have e1 := in_run (base := base) (h := h1) (x := n) (a := 1) (b := 200)
 cases c1 : inB n 1 200 with
 | false =>
  rw [c1] at e1
  rw [show implB x n = false by unfold implB; rw [c1]; rfl]
  refine ⟨h1, Am.r159 (lets fun y ey => ?_), k1⟩
  rw [hh1] at ey
  subst ey
  exact bj _ (bs e1 (bB rfl (ifT rfl rfl))) (bI rfl (bs rfl (bB rfl (ifT rfl rfl))))
 | true =>
  rw [c1] at e1
  obtain ⟨h2, e2, k2⟩ := onlyNamed_run (base := base) (h := h1) (x := x) (by omega)
  have o2 := o1.keepN k2
  cases c2 : onlyN x with
  | false =>
   rw [c2] at e2
   rw [show implB x n = false by unfold implB; rw [c1, c2]; rfl]
   refine ⟨h2, Am.r159 (lets fun y ey => ?_), kN k1 k2⟩
   rw [hh1] at ey
   subst ey
   exact bj _ (bs e1 (bB rfl (ifF (by decide) (qi o1 (bs e2 (bB rfl (ifT rfl rfl))))))) (bI rfl (bs rfl (bB rfl (ifT rfl rfl))))
  | true =>
   rw [c2] at e2
   refine ⟨h2, Am.r159 (lets fun y ey => ?_), kN k1 k2⟩
   rw [hh1] at ey
   subst ey
   have ea := isReg_run (base := base) (h := h2) (v := x.a)
   have eb := isReg_run (base := base) (h := h2) (v := x.b)
   have ec := isReg_run (base := base) (h := h2) (v := x.c)
   cases c3 : inB x.a 0 7 with
   | false =>
    rw [c3] at ea
    rw [show implB x n = false by unfold implB; rw [c1, c2, c3]; rfl]
    exact bj _ (bs e1 (bB rfl (ifF (by decide) (qi o1 (bs e2 (bB rfl (ifF (by decide) (bI (o2.at0 (i := 1) rfl) (bs ea (bB rfl (ifT rfl rfl))))))))))) (bI rfl (bs rfl (bB rfl (ifT rfl rfl))))
   | true =>
    rw [c3] at ea
    cases c4 : inB x.b 0 7 with
    | false =>
     rw [c4] at eb
     rw [show implB x n = false by unfold implB; rw [c1, c2, c3, c4]; rfl]
     exact bj _ (bs e1 (bB rfl (ifF (by decide) (qi o1 (bs e2 (bB rfl (ifF (by decide) (bI (o2.at0 (i := 1) rfl) (bs ea (bB rfl (ifF (by decide) (bI (o2.at0 (i := 2) rfl) (bs eb (bB rfl (ifT rfl rfl))))))))))))))) (bI rfl (bs rfl (bB rfl (ifT rfl rfl))))
    | true =>
     rw [c4] at eb
     have ht : implB x n = (inB x.c 0 7 && tailI x n) := by unfold implB; rw [c1, c2, c3, c4]; rfl
     rw [ht]
     refine bj ([some (.int .i64 n), some (.pointer (at0 h.length)), some (.bool (!inB x.c 0 7))], h2) (bs e1 (bB rfl (ifF (by decide) (qi o1 (bs e2 (bB rfl (ifF (by decide) (bI (o2.at0 (i := 1) rfl) (bs ea (bB rfl (ifF (by decide) (bI (o2.at0 (i := 2) rfl) (bs eb (bB rfl (ifF (by decide) (bI (o2.at0 (i := 3) rfl) (bs ec (bB rfl rfl)))))))))))))))))) (bI rfl (bs rfl (bB rfl ?_)))
     cases inB x.c 0 7 with
     | false => exact ifT rfl rfl
     | true =>
      refine ifF (by decide) (bI (o2.at0 (i := 0) rfl) ?_)
      rw [Bool.true_and]
      unfold tailI
      refine itB (bI (o2.at0 (i := 4) rfl) (bs in_run (bB rfl rfl))) (itB (bT (o2.at0 (i := 5) rfl) (bs (implAtomOk_run hs) (bB rfl rfl))) (itB (bI (o2.at0 (i := 4) rfl) (bs in_run (bB rfl (itB (bI (o2.at0 (i := 2) rfl) (bI (o2.at0 (i := 4) rfl) rfl)) rfl)))) (itB (bI (o2.at0 (i := 4) rfl) (bs in_run (bB rfl rfl))) (itB (bI (o2.at0 (i := 2) rfl) (bs in_run (bB rfl (itB (bI (o2.at0 (i := 4) rfl) (bs in_run (bB rfl rfl))) rfl)))) ?_))))
      exact bj _ (itJ (fun b => [some (.int .i64 n), some (.pointer (at0 h.length)), some (.bool b)]) rfl (itJ (fun b => [some (.int .i64 n), some (.pointer (at0 h.length)), some (.bool b)]) rfl rfl)) (bI rfl (bs rfl (bB rfl (itB (bI (o2.at0 (i := 4) rfl) (bs in_run (bB rfl rfl))) rfl))))
def hasF (s : ByteArray) (c : Int) : Nat → Nat → Bool
 | 0, _ => false
 | d + 1, i => if (((s.data.toList.getD i 0).toNat : Int) == c) = true then true else hasF s c d (i + 1)
def hasL (s : ByteArray) (c : Int) : Bool := hasF s c s.size 0
theorem l8Letter_loop {base : Nat} {h : AH} {s : ByteArray} {c : Int} (hs : s.size ≤ 9223372036854775807) : ∀ (d i : Nat), i + d = s.size →
  loopL (B209_0 base) [some (.string s), some (.int .u8 c), some (.int .i64 (i : Int))] h = if hasF s c d i = true then some (1, [some (.bool true)], h) else some (2, [], h) := by
 intro d
 induction d with
 | zero =>
  intro i hi
  refine loop_off (by decide) ?_
  rw [B209_0_eq]
  exact ifF (by simp; omega) rfl
 | succ d ih =>
  intro i hi
  rw [hasF]
  by_cases c1 : (((s.data.toList.getD i 0).toNat : Int) == c) = true
  ·rw [if_pos c1, if_pos rfl]
   refine loop_off (by decide) ?_
   rw [B209_0_eq]
   refine ifT (decide_eq_true (by omega)) (ifT ⟨by omega, by omega⟩ ?_)
   simp only [Int.toNat_natCast]
   exact ifT c1 rfl
  ·rw [if_neg c1, ← ih (i + 1) (by omega)]
   refine loop_on ?_ rfl
   rw [B209_0_eq]
   refine ifT (decide_eq_true (by omega)) (ifT ⟨by omega, by omega⟩ ?_)
   simp only [Int.toNat_natCast]
   refine ifF c1 ?_
   rw [w64i (n := (i : Int) + 1) (by omega) (by omega)]
   rfl
theorem l8Letter_run {base : Nat} {h : AH} {s : ByteArray} {c : Int} (hs : s.size ≤ 9223372036854775807) : run (Et base) 209 [.string s, .int .u8 c] h = some (.bool (hasL s c), h) := by
 have e := l8Letter_loop (base := base) (h := h) (c := c) hs s.size 0 (by omega)
 rw [show ((0 : Nat) : Int) = 0 from rfl] at e
 refine Am.r209 ?_
 unfold hasL
 cases hb : hasF s c s.size 0 with
 | true => rw [hb] at e; exact bs e (ifT rfl (bB rfl rfl))
 | false => rw [hb] at e; exact bs e (ifF (show ¬ (2 : Nat) = 1 by decide) (ifT rfl rfl))
def regB (s : ByteArray) (c r : Int) : Bool := if (!hasL s c) = true then (r == (0 : Int)) else inB r 0 7
theorem l8Reg_run {base : Nat} {h : AH} {s : ByteArray} {c r : Int} (hs : s.size ≤ 9223372036854775807) : run (Et base) 198 [.string s, .int .u8 c, .int .i64 r] h = some (.bool (regB s c r), h) := by
 refine Am.r198 (bs (l8Letter_run hs) (bB rfl ?_))
 unfold regB
 exact itB rfl (bs l1In_run (bB rfl rfl))
def numB (x : In) (n : Int) : Bool :=
 if (x.op == (1 : Int)) = true then inB x.n (-1000000) 1000000 else if (x.op == (4 : Int)) = true then (if inB x.n 0 8 = true then decide (IntKind.wrap .i64 (x.b + x.n) ≤ (8 : Int)) else false)
 else if (x.op == (6 : Int)) = true then inB x.n 0 7
 else if (if (x.op == (10 : Int)) = true then (x.op == (10 : Int)) else (if (x.op == (11 : Int)) = true then (x.op == (11 : Int)) else (if (x.op == (12 : Int)) = true then (x.op == (12 : Int)) else (x.op == (16 : Int))))) = true then (if decide (x.n ≥ (0 : Int)) = true then decide (x.n < n) else false) else (x.n == (0 : Int))
theorem l8Num_run {base : Nat} {h : AH} {x : In} {n : Int} (hb : base ≤ h.length) : ∃ h', run (Et base) 199 [.agg (inV x).toArray, .int .i64 n] h = some (.bool (numB x n), h') ∧ KB NoB h h' := by
 obtain ⟨o1, k1, q1⟩ := box_own (base := base) (t := 139) (h := h) (cs := inV x) hb rfl
 generalize hh1 : h ++ [some (⟨inV x, 139⟩ : Blk)] = h1 at o1 k1 q1
 refine ⟨h1, Am.r199 (lets fun y ey => ?_), k1⟩
 rw [hh1] at ey
 subst ey
 refine bI (o1.at0 (i := 0) rfl) ?_
 unfold numB
 refine itB (bI (o1.at0 (i := 4) rfl) (bs l1In_run (bB rfl rfl))) (itB (bI (o1.at0 (i := 4) rfl) (bs l1In_run (bB rfl (itB (bI (o1.at0 (i := 2) rfl) (bI (o1.at0 (i := 4) rfl) rfl)) rfl)))) (itB (bI (o1.at0 (i := 4) rfl) (bs l1In_run (bB rfl rfl))) ?_))
 refine bj _ (itJ (fun b => [some (.int .i64 n), some (.pointer (at0 h.length)), some (.bool b)]) rfl (itJ (fun b => [some (.int .i64 n), some (.pointer (at0 h.length)), some (.bool b)]) rfl (itJ (fun b => [some (.int .i64 n), some (.pointer (at0 h.length)), some (.bool b)]) rfl rfl))) (bI rfl (bs rfl (bB rfl ?_)))
 exact itB (bI (o1.at0 (i := 4) rfl) (itB (bI (o1.at0 (i := 4) rfl) rfl) rfl)) (bI (o1.at0 (i := 4) rfl) rfl)
def usesV : List Value := [.string ⟨#[65, 78]⟩, .string ⟨#[65, 83]⟩, .string ⟨#[65, 66]⟩, .string ⟨#[65, 66, 78]⟩, .string ⟨#[65, 66, 67]⟩, .string ⟨#[65, 66, 78]⟩, .string ⟨#[65, 66]⟩, .string ⟨#[65, 66]⟩, .string ⟨#[65, 66, 67]⟩, .string ⟨#[65, 66, 78]⟩, .string ⟨#[65, 66, 78]⟩, .string ⟨#[78]⟩, .string ⟨#[65, 66]⟩, .string ⟨#[65]⟩, .string ⟨#[65]⟩, .string ⟨#[65, 66, 78]⟩, .string ⟨#[65]⟩, .string ⟨#[65]⟩, .string ⟨#[65]⟩, .string ⟨#[65]⟩]
theorem uses_at {op : Int} (h : 1 ≤ op ∧ op ≤ 20) : usesV[Int.toNat (op - 1)]? = some (.string (shp op)) := by
 rcases op_cases h with rfl | rfl | rfl | rfl | rfl | rfl | rfl | rfl | rfl | rfl | rfl | rfl | rfl | rfl | rfl | rfl | rfl | rfl | rfl | rfl <;> rfl
def specB (x : In) (n : Int) : Bool :=
 inB n 1 200 && (inB x.op 1 20 && (regB (shp x.op) 65 x.a && (regB (shp x.op) 67 x.c && ((if (x.op == (11 : Int)) = true then inB x.b 1 6 else regB (shp x.op) 66 x.b) && ((if (x.op == (2 : Int)) = true then atomOk x.s else emp x.s) && numB x n)))))
end Go.Proofs.Ytjmkbglnjklbcaa.Am
set_option linter.unusedSimpArgs false
set_option linter.unusedVariables false
namespace Go.Proofs.Ytjmkbglnjklbcaa.Am
open Go Go.RowKit
theorem specInsOk_run {base : Nat} {h : AH} {x : In} {n : Int} (hs : x.s.size ≤ 9223372036854775807) (hb : base ≤ h.length) : ∃ h', run (Et base) 164 [.agg (inV x).toArray, .int .i64 n] h = some (.bool (specB x n), h') ∧ KB NoB h h' := by
 obtain ⟨o1, k1, q1⟩ := box_own (base := base) (t := 139) (h := h) (cs := inV x) hb rfl
 generalize hh1 : h ++ [some (⟨inV x, 139⟩ : Blk)] = h1 at o1 k1 q1
 have e1 := l1In_run (base := base) (h := h1) (x := n) (a := 1) (b := 200)
 have e2 := l1In_run (base := base) (h := h1) (x := x.op) (a := 1) (b := 20)
 cases c1 : inB n 1 200 with
 | false =>
  rw [c1] at e1
  rw [show specB x n = false by unfold specB; rw [c1]; rfl]
  refine ⟨h1, Am.r164 (lets fun y ey => ?_), k1⟩
  rw [hh1] at ey
  rw [ey]
  exact bj _ (bs e1 (bB rfl (ifT rfl rfl))) (bI rfl (bs rfl (bB rfl (ifT rfl rfl))))
 | true =>
  rw [c1] at e1
  cases c2 : inB x.op 1 20 with
  | false =>
   rw [c2] at e2
   rw [show specB x n = false by unfold specB; rw [c1, c2]; rfl]
   refine ⟨h1, Am.r164 (lets fun y ey => ?_), k1⟩
   rw [hh1] at ey
   rw [ey]
   exact bj _ (bs e1 (bB rfl (ifF (by decide) (bI (o1.at0 (i := 0) rfl) (bs e2 (bB rfl rfl)))))) (bI rfl (bs rfl (bB rfl (ifT rfl rfl))))
  | true =>
   rw [c2] at e2
   have hop : 1 ≤ x.op ∧ x.op ≤ 20 := by
    unfold inB at c2
    simp at c2
    omega
   obtain ⟨o3, k3, q3⟩ := box_own (base := base) (t := 9) (h := h1) (cs := usesV) (by omega) rfl
   generalize hh3 : h1 ++ [some (⟨usesV, 9⟩ : Blk)] = h3 at o3 k3 q3
   have e3 : run (Et base) 197 [] h1 = some (.slice (at0 h1.length) 20 20, h3) := Am.r197 (lets fun y ey => by
    have : y = h3 := ey.trans hh3
    rw [this])
   have o1 := o1.keepN k3
   have k03 := kN k1 k3
   have hw : IntKind.wrap .i64 (x.op - 1) = x.op - 1 := w64i (by omega) (by omega)
   have hsz : (shp x.op).size ≤ 9223372036854775807 := by
    rcases op_cases hop with e | e | e | e | e | e | e | e | e | e | e | e | e | e | e | e | e | e | e | e <;> rw [e] <;> decide
   have eA := l8Reg_run (base := base) (h := h3) (s := shp x.op) (c := 65) (r := x.a) hsz
   have eC := l8Reg_run (base := base) (h := h3) (s := shp x.op) (c := 67) (r := x.c) hsz
   have eB := l8Reg_run (base := base) (h := h3) (s := shp x.op) (c := 66) (r := x.b) hsz
   have eK := l1In_run (base := base) (h := h3) (x := x.b) (a := 1) (b := 6)
   have eS := specAtomOk_run (base := base) (h := h3) hs
   obtain ⟨h4, e4, k4⟩ := l8Num_run (base := base) (h := h3) (x := x) (n := n) (by omega)
   have g0 := o1.at0 (i := 0) rfl
   have head : ∀ {r : Value × AH} (J : Bool), ((if (!regB (shp x.op) 65 x.a) = true then true else if (!regB (shp x.op) 67 x.c) = true then true else if (x.op != (11 : Int)) = true then !regB (shp x.op) 66 x.b else !inB x.b 1 6) = J) →
     (∀ (z : Bool), ((if (x.op == (2 : Int)) = true then !atomOk x.s else !emp x.s) = z) → (if J = true then some (.bool false, h3) else if z = true then some (.bool false, h3) else some (.bool (numB x n), h4)) = some r) → run (Et base) 164 [.agg (inV x).toArray, .int .i64 n] h = some r := by
    intro r J hJ hZ
    have fin := hZ _ rfl
    refine Am.r164 (lets fun y ey => ?_)
    rw [hh1] at ey
    rw [ey]
    refine bj _ (bs e1 (bB rfl (ifF (by decide) (bI (by rw [← hh1]; exact (Own.new base _ h _ hb).at0 (i := 0) rfl) (bs e2 (bB rfl rfl)))))) (bI rfl (bs rfl (bB rfl (ifF (by decide) (bs e3 (bS rfl ?_))))))
    rw [gate_pos (same_keep k3 (by rw [← hh1]; exact (Own.new base _ h _ hb).at0 (i := 0) rfl))]
    refine bI g0 ?_
    rw [hw]
    refine ifT ⟨by omega, by omega⟩ (bs rfl ?_)
    refine bT (s := shp x.op) (by
     have := o3.at0 (i := Int.toNat (x.op - 1) * 1) (by rw [Nat.mul_one]; exact uses_at hop)
     rw [Nat.zero_add]
     exact this) ?_
    refine bj (q := ([some (.int .i64 n), some (.pointer (at0 h.length)), some (.bool J)], h3)) ?_ ?_
    ·refine bI (o1.at0 (i := 1) rfl) (bs eA (bB rfl ?_))
     rw [← hJ]
     cases regB (shp x.op) 65 x.a with
     | false => exact ifT rfl rfl
     | true =>
      refine ifF (by decide) (bI (o1.at0 (i := 3) rfl) (bs eC (bB rfl ?_)))
      cases regB (shp x.op) 67 x.c with
      | false => exact ifT rfl rfl
      | true =>
       refine ifF (by decide) (bI g0 ?_)
       cases c5 : x.op != (11 : Int) with
       | true =>
        have c6 : (x.op == (11 : Int)) = false := by simpa [bne] using c5
        refine ifT rfl (bI (o1.at0 (i := 2) rfl) (bs eB (bB rfl ?_)))
        cases regB (shp x.op) 66 x.b with
        | false => exact ifT rfl rfl
        | true =>
         refine ifF (by decide) (bI g0 ?_)
         rw [c6]
         exact ifF (by decide) rfl
       | false =>
        have c6 : (x.op == (11 : Int)) = true := by simpa [bne] using c5
        refine ifF (by decide) (bI g0 ?_)
        rw [c6]
        exact ifT rfl (bI (o1.at0 (i := 2) rfl) (bs eK (bB rfl rfl)))
    ·refine bI rfl (bs rfl (bB rfl ?_))
     cases J with
     | true => exact ifT rfl (by simpa using fin)
     | false =>
      refine ifF (by decide) ?_
      rw [if_neg (by decide)] at fin
      refine bj (q := ([some (.int .i64 n), some (.pointer (at0 h.length)), some (.bool (if (x.op == (2 : Int)) = true then !atomOk x.s else !emp x.s))], h3)) ?_ ?_
      ·refine bI g0 ?_
       cases c5 : x.op == (2 : Int) with
       | true =>
        have c6 : (x.op != (2 : Int)) = false := by simpa [bne] using c5
        refine ifT rfl (bT (o1.at0 (i := 5) rfl) (bs eS (bB rfl ?_)))
        cases atomOk x.s with
        | false => exact ifT rfl rfl
        | true =>
         refine ifF (by decide) (bI g0 ?_)
         rw [c6]
         exact ifF (by decide) rfl
       | false =>
        have c6 : (x.op != (2 : Int)) = true := by simpa [bne] using c5
        refine ifF (by decide) (bI g0 ?_)
        rw [c6]
        exact ifT rfl (bT (o1.at0 (i := 5) rfl) rfl)
      ·refine bI rfl (bs rfl (bB rfl ?_))
       revert fin
       cases (if (x.op == (2 : Int)) = true then !atomOk x.s else !emp x.s) with
       | true => intro fin; exact ifT rfl (by simpa using fin)
       | false =>
        intro fin
        exact ifF (by decide) (qi o1 (bs e4 (bB rfl (by simpa using fin))))
   have hv : specB x n = (!(if (!regB (shp x.op) 65 x.a) = true then true else if (!regB (shp x.op) 67 x.c) = true then true else if (x.op != (11 : Int)) = true then !regB (shp x.op) 66 x.b else !inB x.b 1 6) && (!(if (x.op == (2 : Int)) = true then !atomOk x.s else !emp x.s) && numB x n)) := by
    unfold specB
    rw [c1, c2]
    cases regB (shp x.op) 65 x.a <;> cases regB (shp x.op) 67 x.c <;> cases h11 : (x.op == (11 : Int)) <;> cases h2 : (x.op == (2 : Int)) <;> simp [bne, h11, h2]
   cases hJ : (if (!regB (shp x.op) 65 x.a) = true then true else if (!regB (shp x.op) 67 x.c) = true then true else if (x.op != (11 : Int)) = true then !regB (shp x.op) 66 x.b else !inB x.b 1 6) with
   | true => exact ⟨h3, head true hJ fun z hz => by rw [hv, hJ]; rfl, k03⟩
   | false =>
    cases hZ : (if (x.op == (2 : Int)) = true then !atomOk x.s else !emp x.s) with
    | true => exact ⟨h3, head false hJ fun z hz => by rw [← hz, hv, hJ, hZ]; rfl, k03⟩
    | false => exact ⟨h4, head false hJ fun z hz => by rw [← hz, hv, hJ, hZ]; simp, kN k03 k4⟩
theorem has_eq {op : Int} (h : 1 ≤ op ∧ op ≤ 20) : hasB (shp op) 65 = hasL (shp op) 65 ∧ hasB (shp op) 66 = hasL (shp op) 66 ∧ hasB (shp op) 67 = hasL (shp op) 67 ∧ emp (shp op) = false := by
 rcases op_cases h with rfl | rfl | rfl | rfl | rfl | rfl | rfl | rfl | rfl | rfl | rfl | rfl | rfl | rfl | rfl | rfl | rfl | rfl | rfl | rfl <;> decide +kernel
theorem reg_eq {t : ByteArray} {c v : Int} (h : hasB t c = hasL t c) : regB t c v = ((hasB t c || v == 0) && inB v 0 7) := by
 unfold regB
 rw [h]
 cases hasL t c with
 | true => rfl
 | false =>
  by_cases h : v = 0
  ·subst h; rfl
  ·simp [h]
theorem implB_eq (x : In) (n : Int) : implB x n = specB x n := by
 unfold implB specB
 cases c1 : inB n 1 200 with
 | false => rfl
 | true =>
  have hn : 1 ≤ n ∧ n ≤ 200 := by unfold inB at c1; simp at c1; omega
  have hw : IntKind.wrap .i64 (n - 1) = n - 1 := w64i (by omega) (by omega)
  rw [Bool.true_and, Bool.true_and]
  by_cases c2 : 1 ≤ x.op ∧ x.op ≤ 20
  ·have e2 : inB x.op 1 20 = true := by unfold inB; simp; omega
   rw [e2, Bool.true_and]
   obtain ⟨op, a, b, c, m, s⟩ := x
   simp only at c2 ⊢
   obtain ⟨eA, eB, eC, eE⟩ := has_eq c2
   rw [reg_eq eA, reg_eq eB, reg_eq eC]
   unfold onlyN tailI numB
   simp only [hw, eE]
   have k16 : inB b 1 6 = true → inB b 0 7 = true := fun h => by unfold inB at h ⊢; simp at h ⊢; omega
   have kn : (if decide (m ≥ 0) = true then decide (m < n) else false) = inB m 0 (n - 1) := by
    unfold inB
    by_cases h : m ≥ 0
    ·by_cases h2 : m < n
     ·simp [h, h2]; omega
     ·simp [h, h2]; omega
    ·simp [h]
   rw [kn]
   clear eA eB eC eE
   generalize hX : inB a 0 7 = ia
   generalize hY : inB c 0 7 = ic
   rcases op_cases c2 with rfl | rfl | rfl | rfl | rfl | rfl | rfl | rfl | rfl | rfl | rfl | rfl | rfl | rfl | rfl | rfl | rfl | rfl | rfl | rfl
   all_goals
    first
     | rw [show hasB (shp _) 78 = true from by decide +kernel]
     | rw [show hasB (shp _) 78 = false from by decide +kernel]
    first
     | rw [show hasB (shp _) 83 = true from by decide +kernel]
     | rw [show hasB (shp _) 83 = false from by decide +kernel]
    simp only [Int.reduceBEq, if_true, Bool.false_eq_true, if_false, Bool.not_false, Bool.true_and, Bool.true_or, Bool.false_or, Bool.and_true, ↓reduceIte]
    first
     | ac_rfl
     | (cases h16 : inB b 1 6 with
       | true => rw [k16 h16]; simp only [if_true, Bool.and_true, Bool.true_and]; rw [show hasB (shp _) 66 = true from by decide +kernel]; simp only [Bool.true_or, Bool.true_and, Bool.and_true]; ac_rfl
       | false => simp)
  ·have e2 : inB x.op 1 20 = false := by
    unfold inB
    simp
    omega
   have e3 : onlyN x = false := by
    unfold onlyN
    rw [shp_out c2, show emp ⟨#[]⟩ = true from by simp [emp]]
    rfl
   rw [e2, e3]
   rfl
end Go.Proofs.Ytjmkbglnjklbcaa.Am
set_option linter.unusedSimpArgs false
set_option linter.unusedVariables false
namespace Go.Proofs.Ytjmkbglnjklbcaa.Am
open Go Go.RowKit
def allIns (n : Int) : List In → Bool
 | [] => true
 | x :: r => specB x n && allIns n r
def lastOp (l : List In) : Int := (l.getD (l.length - 1) ⟨0, 0, 0, 0, 0, ⟨#[]⟩⟩).op
def codeOk (l : List In) : Bool := inB (l.length : Int) 1 200 && ((lastOp l == (19 : Int) || lastOp l == (12 : Int)) && allIns (l.length : Int) l)
theorem implCode_loop {base : Nat} {l : List In} {a : Option Addr} (hL : ∀ x ∈ l, x.s.size ≤ 9223372036854775807) (hl : l.length ≤ 9223372036854775807) : ∀ (d i : Nat) (h : AH), i + d = l.length → Sl h a (insR l) → base ≤ h.length →
  ∃ h', loopL (B94_0 base) [some (.slice a l.length l.length), some (.int .i64 (l.length : Int)), some (.slice a l.length l.length), some (.int .i64 (l.length : Int)), some (.int .i64 (i : Int))] h = some (if allIns (l.length : Int) (l.drop i) = true then (2, [some (.slice a l.length l.length), some (.int .i64 (l.length : Int))], h') else (1, [some (.bool false)], h')) ∧ KB NoB h h' := by
 intro d
 induction d with
 | zero =>
  intro i h hi hs hb
  refine ⟨h, ?_, KB.refl _ _⟩
  rw [List.drop_eq_nil_of_le (by omega), show allIns (l.length : Int) [] = true from rfl, if_pos rfl]
  refine loop_off (by decide) ?_
  rw [B94_0_eq]
  exact ifF (by simp; omega) rfl
 | succ d ihd =>
  intro i h hi hs hb
  have hlt : i < l.length := by omega
  obtain ⟨ad, rfl, g0, g1, g2, g3, g4, g5⟩ := In.get hs hlt
  obtain ⟨o1, k1, q1⟩ := box_own (base := base) (t := 139) (h := h) (cs := inV l[i]) hb rfl
  generalize hh1 : h ++ [some (⟨inV l[i], 139⟩ : Blk)] = h1 at o1 k1 q1
  obtain ⟨h2, e2, k2⟩ := implInsOk_run (base := base) (h := h1) (x := l[i]) (n := (l.length : Int)) (hL _ (List.getElem_mem hlt)) (by omega)
  rw [implB_eq] at e2
  have n2 := k2.1
  rw [List.drop_eq_getElem_cons hlt, allIns]
  have head : ∀ {r : Option (Nat × Slots × AH)}, (if (!specB l[i] (l.length : Int)) = true then some (1, [some (.bool false)], h2) else some (0, [some (.slice (some ad) l.length l.length), some (.int .i64 (l.length : Int)), some (.slice (some ad) l.length l.length), some (.int .i64 (l.length : Int)), some (.int .i64 (IntKind.wrap .i64 ((i : Int) + (1 : Int))))], h2)) = r →
    B94_0 base [some (.slice (some ad) l.length l.length), some (.int .i64 (l.length : Int)), some (.slice (some ad) l.length l.length), some (.int .i64 (l.length : Int)), some (.int .i64 (i : Int))] h = r := by
   intro r hr
   rw [B94_0_eq]
   refine ifT (decide_eq_true (by omega)) (ifT ⟨by omega, by omega⟩ (bs rfl ?_))
   simp only [Int.toNat_natCast]
   refine bI g0 (bI g1 (bI g2 (bI g3 (bI g4 (bT g5 (nw hb rfl fun y ey => ?_))))))
   rw [hh1] at ey
   rw [ey]
   exact qi o1 (bs e2 (bB rfl hr))
  cases c : specB l[i] (l.length : Int) with
  | false =>
   refine ⟨h2, ?_, kN k1 k2⟩
   rw [Bool.false_and, if_neg (by decide)]
   exact loop_off (by decide) (head (by rw [c]; exact ifT rfl rfl))
  | true =>
   rw [Bool.true_and]
   obtain ⟨h3, y1, y2⟩ := ihd (i + 1) h2 (by omega) (hs.keepN (kN k1 k2)) (by omega)
   refine ⟨h3, loop_on (head ?_) y1, kN (kN k1 k2) y2⟩
   rw [c, w64i (n := (i : Int) + 1) (by omega) (by omega)]
   exact ifF (by decide) rfl
theorem specCode_loop {base : Nat} {l : List In} {a : Option Addr} (hL : ∀ x ∈ l, x.s.size ≤ 9223372036854775807) (hl : l.length ≤ 9223372036854775807) : ∀ (d i : Nat) (h : AH), i + d = l.length → Sl h a (insR l) → base ≤ h.length →
  ∃ h', loopL (B105_0 base) [some (.slice a l.length l.length), some (.int .i64 (l.length : Int)), some (.int .i64 (i : Int))] h = some (if allIns (l.length : Int) (l.drop i) = true then (2, [], h') else (1, [some (.bool false)], h')) ∧ KB NoB h h' := by
 intro d
 induction d with
 | zero =>
  intro i h hi hs hb
  refine ⟨h, ?_, KB.refl _ _⟩
  rw [List.drop_eq_nil_of_le (by omega), show allIns (l.length : Int) [] = true from rfl, if_pos rfl]
  refine loop_off (by decide) ?_
  rw [B105_0_eq]
  exact ifF (by simp; omega) rfl
 | succ d ihd =>
  intro i h hi hs hb
  have hlt : i < l.length := by omega
  obtain ⟨ad, rfl, g0, g1, g2, g3, g4, g5⟩ := In.get hs hlt
  obtain ⟨h2, e2, k2⟩ := specInsOk_run (base := base) (h := h) (x := l[i]) (n := (l.length : Int)) (hL _ (List.getElem_mem hlt)) (by omega)
  have n2 := k2.1
  rw [List.drop_eq_getElem_cons hlt, allIns]
  have head : ∀ {r : Option (Nat × Slots × AH)}, (if (!specB l[i] (l.length : Int)) = true then some (1, [some (.bool false)], h2) else some (0, [some (.slice (some ad) l.length l.length), some (.int .i64 (l.length : Int)), some (.int .i64 (IntKind.wrap .i64 ((i : Int) + (1 : Int))))], h2)) = r →
    B105_0 base [some (.slice (some ad) l.length l.length), some (.int .i64 (l.length : Int)), some (.int .i64 (i : Int))] h = r := by
   intro r hr
   rw [B105_0_eq]
   refine ifT (decide_eq_true (by omega)) (ifT ⟨by omega, by omega⟩ (bs rfl ?_))
   simp only [Int.toNat_natCast]
   exact bI g0 (bI g1 (bI g2 (bI g3 (bI g4 (bT g5 (bs e2 (bB rfl hr)))))))
  cases c : specB l[i] (l.length : Int) with
  | false =>
   refine ⟨h2, ?_, k2⟩
   rw [Bool.false_and, if_neg (by decide)]
   exact loop_off (by decide) (head (by rw [c]; exact ifT rfl rfl))
  | true =>
   rw [Bool.true_and]
   obtain ⟨h3, y1, y2⟩ := ihd (i + 1) h2 (by omega) (hs.keepN k2) (by omega)
   refine ⟨h3, loop_on (head ?_) y1, kN k2 y2⟩
   rw [c, w64i (n := (i : Int) + 1) (by omega) (by omega)]
   exact ifF (by decide) rfl
theorem last_at {h : AH} {a : Option Addr} {l : List In} (hs : Sl h a (insR l)) (hl : 1 ≤ l.length) (hl2 : l.length ≤ 9223372036854775807) : (0 ≤ IntKind.wrap .i64 ((l.length : Int) - 1) ∧ IntKind.wrap .i64 ((l.length : Int) - 1) < (l.length : Int)) ∧
  ∃ ad, a = some ad ∧ Am.cell h ad.block ((ad.off + Int.toNat (IntKind.wrap .i64 ((l.length : Int) - 1)) * 6) + 0) = some (.int .i64 (lastOp l)) := by
 have hw : IntKind.wrap .i64 ((l.length : Int) - 1) = ((l.length - 1 : Nat) : Int) := by rw [w64i (by omega) (by omega)]; omega
 rw [hw]
 obtain ⟨ad, e, g0, _⟩ := In.get hs (i := l.length - 1) (by omega)
 refine ⟨⟨by omega, by omega⟩, ad, e, ?_⟩
 rw [Int.toNat_natCast, Nat.add_zero, g0]
 unfold lastOp
 rw [List.getD_eq_getElem?_getD, List.getElem?_eq_getElem (by omega)]
 rfl
theorem implCodeOk_run {base : Nat} {h : AH} {l : List In} {a : Option Addr} (hL : ∀ x ∈ l, x.s.size ≤ 9223372036854775807) (hl : l.length ≤ 9223372036854775807) (hs : Sl h a (insR l)) (hb : base ≤ h.length) :
  ∃ h', run (Et base) 94 [.slice a l.length l.length] h = some (.bool (codeOk l), h') ∧ KB NoB h h' := by
 obtain ⟨h1, e1, k1⟩ := implCode_loop (base := base) hL hl l.length 0 h (by omega) hs hb
 rw [List.drop_zero, show ((0 : Nat) : Int) = 0 from rfl] at e1
 refine ⟨h1, ?_, k1⟩
 unfold codeOk
 cases c : allIns (l.length : Int) l with
 | false =>
  rw [c, if_neg (by decide)] at e1
  refine Am.r94 (bs e1 (ifT rfl (bB rfl ?_)))
  rw [Bool.and_false, Bool.and_false]
 | true =>
  rw [c, if_pos rfl] at e1
  refine Am.r94 (bs e1 (ifF (show ¬ (2 : Nat) = 1 by decide) (ifT rfl (bS rfl (bI rfl (bs in_run (bB rfl ?_)))))))
  cases c2 : inB (l.length : Int) 1 200 with
  | false => exact ifF (by decide) rfl
  | true =>
   have hn : 1 ≤ l.length := by unfold inB at c2; simp at c2; omega
   obtain ⟨hin, ad, rfl, g⟩ := last_at (hs.keepN k1) hn hl
   refine ifT rfl (ifT hin (bs rfl (bI g ?_)))
   rw [Bool.and_true, Bool.true_and]
   cases c3 : lastOp l == (19 : Int) with
   | true => exact ifT rfl rfl
   | false => exact ifF (by decide) (ifT hin (bs rfl (bI g (by rw [Bool.false_or]))))
theorem specCodeOk_run {base : Nat} {h : AH} {l : List In} {a : Option Addr} (hL : ∀ x ∈ l, x.s.size ≤ 9223372036854775807) (hl : l.length ≤ 9223372036854775807) (hs : Sl h a (insR l)) (hb : base ≤ h.length) :
  ∃ h', run (Et base) 105 [.slice a l.length l.length] h = some (.bool (codeOk l), h') ∧ KB NoB h h' := by
 have e0 := l1In_run (base := base) (h := h) (x := (l.length : Int)) (a := 1) (b := 200)
 unfold codeOk
 cases c2 : inB (l.length : Int) 1 200 with
 | false =>
  rw [c2] at e0
  exact ⟨h, Am.r105 (bj _ (bs e0 (bB rfl (ifT rfl rfl))) (bS rfl (bI rfl (bB rfl (ifT rfl rfl))))), KB.refl _ _⟩
 | true =>
  rw [c2] at e0
  have hn : 1 ≤ l.length := by unfold inB at c2; simp at c2; omega
  obtain ⟨hin, ad, rfl, g⟩ := last_at hs hn hl
  obtain ⟨h1, e1, k1⟩ := specCode_loop (base := base) hL hl l.length 0 h (by omega) hs hb
  rw [List.drop_zero, show ((0 : Nat) : Int) = 0 from rfl] at e1
  have eJ : ∀ {r : Value × AH}, ((if (!(lastOp l == (19 : Int) || lastOp l == (12 : Int))) = true then some (.bool false, h) else (loopL (B105_0 base) [some (.slice (some ad) l.length l.length), some (.int .i64 (l.length : Int)), some (.int .i64 0)] h).bind fun q11 => (if q11.1 = 1 then ((sget q11.2.1 0).bind getB).bind fun b12 => some ((.bool b12), q11.2.2) else (if q11.1 = 2 then some ((.bool true), q11.2.2) else none))) = some r) →
    run (Et base) 105 [.slice (some ad) l.length l.length] h = some r := by
   intro r hr
   refine Am.r105 (bj (q := ([some (.slice (some ad) l.length l.length), some (.int .i64 (l.length : Int)), some (.bool (!(lastOp l == (19 : Int) || lastOp l == (12 : Int))))], h)) (bs e0 (bB rfl (ifF (by decide) (ifT hin (bs rfl (bI g ?_)))))) (bS rfl (bI rfl (bB rfl hr))))
   cases c3 : lastOp l == (19 : Int) with
   | true => exact ifF (by simp [bne, c3]) rfl
   | false => exact ifT (by simp [bne, c3]) (ifT hin (bs rfl (bI g rfl)))
  cases c3 : (lastOp l == (19 : Int) || lastOp l == (12 : Int)) with
  | false => exact ⟨h, eJ (by rw [c3]; exact ifT rfl rfl), KB.refl _ _⟩
  | true =>
   cases c : allIns (l.length : Int) l with
   | false =>
    rw [c, if_neg (by decide)] at e1
    exact ⟨h1, eJ (by rw [c3]; exact ifF (by decide) (bs e1 (ifT rfl (bB rfl rfl)))), k1⟩
   | true =>
    rw [c, if_pos rfl] at e1
    exact ⟨h1, eJ (by rw [c3]; exact ifF (by decide) (bs e1 (ifF (show ¬ (2 : Nat) = 1 by decide) (ifT rfl rfl)))), k1⟩
end Go.Proofs.Ytjmkbglnjklbcaa.Am
set_option linter.unusedSimpArgs false
set_option linter.unusedVariables false
namespace Go.Proofs.Ytjmkbglnjklbcaa.Am
open Go Go.RowKit
end Go.Proofs.Ytjmkbglnjklbcaa.Am
set_option linter.unusedSimpArgs false
set_option linter.unusedVariables false
namespace Go.Proofs.Ytjmkbglnjklbcaa.Am
open Go Go.RowKit
end Go.Proofs.Ytjmkbglnjklbcaa.Am
set_option linter.unusedSimpArgs false
set_option linter.unusedVariables false
namespace Go.Proofs.Ytjmkbglnjklbcaa.Am
open Go Go.RowKit
theorem TsR.getT {h : AH} {p : Nat → Prop} {f : Nat} {l : List Tm} {a : Option Addr} (x : TsR h p f l a) {i : Nat} (hi : i < l.length) :
  ∃ ad k n s a2 m, a = some ad ∧ Am.cell h ad.block (ad.off + i * 4) = some (.int .i64 k) ∧ Am.cell h ad.block (ad.off + i * 4 + 1) = some (.int .i64 n) ∧ Am.cell h ad.block (ad.off + i * 4 + 1 + 1) = some (.string s) ∧ Am.cell h ad.block (ad.off + i * 4 + 1 + 1 + 1) = some (.slice a2 m m) ∧ TmR h p f l[i] (termV k n s a2 m) := by
 obtain ⟨ad, c0, c1, c2, c3, e, g0, g1, g2, g3, hm⟩ := x.get hi
 obtain ⟨k, n, s, a2, m, e2⟩ := hm.form
 injection e2 with q0 e2
 injection e2 with q1 e2
 injection e2 with q2 e2
 injection e2 with q3 _
 subst q0; subst q1; subst q2; subst q3
 exact ⟨ad, k, n, s, a2, m, e, g0, g1, g2, g3, hm⟩
def tsB (f : Nat) : List Tm → Bool
 | [] => true
 | t :: r => tOk f t && tsB f r
theorem l9Terms_loop {base f : Nat} {p : Nat → Prop} {l : List Tm} {a : Option Addr} (hl : l.length ≤ 9223372036854775807) : ∀ (d i : Nat) (h : AH), i + d = l.length → TsR h p f l a → base ≤ h.length →
  ∃ h', loopL (B106_0 base) [some (.slice a l.length l.length), some (.int .i64 (i : Int))] h = some (if tsB f (l.drop i) = true then (2, [], h') else (1, [some (.bool false)], h')) ∧ KB NoB h h' := by
 intro d
 induction d with
 | zero =>
  intro i h hi hs hb
  refine ⟨h, ?_, KB.refl _ _⟩
  rw [List.drop_eq_nil_of_le (by omega), show tsB f [] = true from rfl, if_pos rfl]
  refine loop_off (by decide) ?_
  rw [B106_0_eq]
  exact ifF (by simp; omega) rfl
 | succ d ihd =>
  intro i h hi hs hb
  have hlt : i < l.length := by omega
  obtain ⟨ad, k, n, s, a2, m, rfl, g0, g1, g2, g3, hm⟩ := hs.getT hlt
  obtain ⟨h2, e2, k2⟩ := specTermOk_run (base := base) hm hb
  have n2 := k2.1
  rw [List.drop_eq_getElem_cons hlt, tsB]
  have head : ∀ {r : Option (Nat × Slots × AH)}, (if (!tOk f l[i]) = true then some (1, [some (.bool false)], h2) else some (0, [some (.slice (some ad) l.length l.length), some (.int .i64 (IntKind.wrap .i64 ((i : Int) + (1 : Int))))], h2)) = r → B106_0 base [some (.slice (some ad) l.length l.length), some (.int .i64 (i : Int))] h = r := by
   intro r hr
   rw [B106_0_eq]
   refine ifT (decide_eq_true (by omega)) (ifT ⟨by omega, by omega⟩ (bs rfl ?_))
   simp only [Int.toNat_natCast]
   exact bI g0 (bI g1 (bT g2 (bS g3 (bs e2 (bB rfl hr)))))
  cases c : tOk f l[i] with
  | false =>
   refine ⟨h2, ?_, k2⟩
   rw [Bool.false_and, if_neg (by decide)]
   exact loop_off (by decide) (head (by rw [c]; exact ifT rfl rfl))
  | true =>
   rw [Bool.true_and]
   obtain ⟨h3, y1, y2⟩ := ihd (i + 1) h2 (by omega) (hs.keep k2 fun _ _ h => h) (by omega)
   refine ⟨h3, loop_on (head ?_) y1, kN k2 y2⟩
   rw [c, w64i (n := (i : Int) + 1) (by omega) (by omega)]
   exact ifF (by decide) rfl
theorem l9Terms_run {base f : Nat} {h : AH} {p : Nat → Prop} {l : List Tm} {a : Option Addr} (hl : l.length ≤ 9223372036854775807) (hs : TsR h p f l a) (hb : base ≤ h.length) : ∃ h', run (Et base) 106 [.slice a l.length l.length] h = some (.bool (tsB f l), h') ∧ KB NoB h h' := by
 obtain ⟨h1, e1, k1⟩ := l9Terms_loop (base := base) hl l.length 0 h (by omega) hs hb
 rw [List.drop_zero, show ((0 : Nat) : Int) = 0 from rfl] at e1
 refine ⟨h1, ?_, k1⟩
 cases c : tsB f l with
 | false =>
  rw [c, if_neg (by decide)] at e1
  exact Am.r106 (bs e1 (ifT rfl (bB rfl rfl)))
 | true =>
  rw [c, if_pos rfl] at e1
  exact Am.r106 (bs e1 (ifF (show ¬ (2 : Nat) = 1 by decide) (ifT rfl rfl)))
theorem termsOk_loop {base f : Nat} {p : Nat → Prop} {l : List Tm} {a : Option Addr} (hl : l.length ≤ 9223372036854775807) : ∀ (d i : Nat) (h : AH), i + d = l.length → TsR h p f l a → base ≤ h.length →
  ∃ h', loopL (B95_0 base) [some (.slice a l.length l.length), some (.int .i64 (l.length : Int)), some (.int .i64 (i : Int))] h = some (if tsB f (l.drop i) = true then (2, [], h') else (1, [some (.bool false)], h')) ∧ KB NoB h h' := by
 intro d
 induction d with
 | zero =>
  intro i h hi hs hb
  refine ⟨h, ?_, KB.refl _ _⟩
  rw [List.drop_eq_nil_of_le (by omega), show tsB f [] = true from rfl, if_pos rfl]
  refine loop_off (by decide) ?_
  rw [B95_0_eq]
  exact ifF (by simp; omega) rfl
 | succ d ihd =>
  intro i h hi hs hb
  have hlt : i < l.length := by omega
  obtain ⟨ad, k, n, s, a2, m, rfl, g0, g1, g2, g3, hm⟩ := hs.getT hlt
  obtain ⟨o1, k1, q1⟩ := box_own (base := base) (t := 39) (h := h) (cs := termV k n s a2 m) hb rfl
  generalize hh1 : h ++ [some (⟨termV k n s a2 m, 39⟩ : Blk)] = h1 at o1 k1 q1
  obtain ⟨h2, e2, k2⟩ := implTermOk_run (base := base) (h := h1) (TmR.keep k1 (fun _ _ h => h) _ _ _ hm) (by omega)
  have n2 := k2.1
  rw [List.drop_eq_getElem_cons hlt, tsB]
  have head : ∀ {r : Option (Nat × Slots × AH)}, (if (!tOk f l[i]) = true then some (1, [some (.bool false)], h2) else some (0, [some (.slice (some ad) l.length l.length), some (.int .i64 (l.length : Int)), some (.int .i64 (IntKind.wrap .i64 ((i : Int) + (1 : Int))))], h2)) = r → B95_0 base [some (.slice (some ad) l.length l.length), some (.int .i64 (l.length : Int)), some (.int .i64 (i : Int))] h = r := by
   intro r hr
   rw [B95_0_eq]
   refine ifT (decide_eq_true (by omega)) (ifT ⟨by omega, by omega⟩ (bs rfl ?_))
   simp only [Int.toNat_natCast]
   refine bI g0 (bI g1 (bT g2 (bS g3 (nw hb rfl fun y ey => ?_))))
   rw [hh1] at ey
   rw [ey]
   exact q4 o1 (bs e2 (bB rfl hr))
  cases c : tOk f l[i] with
  | false =>
   refine ⟨h2, ?_, kN k1 k2⟩
   rw [Bool.false_and, if_neg (by decide)]
   exact loop_off (by decide) (head (by rw [c]; exact ifT rfl rfl))
  | true =>
   rw [Bool.true_and]
   obtain ⟨h3, y1, y2⟩ := ihd (i + 1) h2 (by omega) (hs.keep (kN k1 k2) fun _ _ h => h) (by omega)
   refine ⟨h3, loop_on (head ?_) y1, kN (kN k1 k2) y2⟩
   rw [c, w64i (n := (i : Int) + 1) (by omega) (by omega)]
   exact ifF (by decide) rfl
theorem termsOk_run {base f : Nat} {h : AH} {p : Nat → Prop} {l : List Tm} {a : Option Addr} (hl : l.length ≤ 9223372036854775807) (hs : TsR h p f l a) (hb : base ≤ h.length) : ∃ h', run (Et base) 95 [.slice a l.length l.length] h = some (.bool (tsB f l), h') ∧ KB NoB h h' := by
 obtain ⟨h1, e1, k1⟩ := termsOk_loop (base := base) hl l.length 0 h (by omega) hs hb
 rw [List.drop_zero, show ((0 : Nat) : Int) = 0 from rfl] at e1
 refine ⟨h1, ?_, k1⟩
 cases c : tsB f l with
 | false =>
  rw [c, if_neg (by decide)] at e1
  exact Am.r95 (bs e1 (ifT rfl (bB rfl rfl)))
 | true =>
  rw [c, if_pos rfl] at e1
  exact Am.r95 (bs e1 (ifF (show ¬ (2 : Nat) = 1 by decide) (ifT rfl rfl)))
def lkBad (zs : List Int) (v : Int) (i : Nat) : Bool :=
 if (!inB (zs.getD i 0) 1 99999) = true then true else if (zs.getD i 0 == v) = true then true else if decide ((i : Int) > (0 : Int)) = true then decide (zs.getD (i - 1) 0 ≥ zs.getD i 0) else false
def lkAny (zs : List Int) (v : Int) : Nat → Nat → Bool
 | 0, _ => false
 | d + 1, i => lkBad zs v i || lkAny zs v d (i + 1)
def lkOk (zs : List Int) (v : Int) : Bool := !lkAny zs v zs.length 0 && decide ((zs.length : Int) ≤ (50 : Int))
theorem int_at {h : AH} {a : Option Addr} {zs : List Int} (hs : Sl h a (iv .i64 zs)) {i : Nat} (hi : i < zs.length) : ∃ ad, a = some ad ∧ Am.cell h ad.block (ad.off + i * 1) = some (.int .i64 (zs.getD i 0)) := by
 obtain ⟨ad, e, g⟩ := hs.cell (i := i) (v := .int .i64 (zs.getD i 0)) (by simp [iv, hi])
 exact ⟨ad, e, by rw [Nat.mul_one]; exact g⟩
theorem l9Links_loop {base : Nat} {zs : List Int} {v : Int} {a : Option Addr} {h : AH} (hl : zs.length ≤ 9223372036854775807) (hs : Sl h a (iv .i64 zs)) : ∀ (d i : Nat), i + d = zs.length →
  loopL (B107_0 base) [some (.slice a zs.length zs.length), some (.int .i64 v), some (.int .i64 (i : Int))] h = some (if lkAny zs v d i = true then (1, [some (.bool false)], h) else (2, [some (.slice a zs.length zs.length)], h)) := by
 intro d
 induction d with
 | zero =>
  intro i hi
  rw [lkAny, if_neg (by decide)]
  refine loop_off (by decide) ?_
  rw [B107_0_eq]
  exact ifF (by simp; omega) rfl
 | succ d ihd =>
  intro i hi
  have hlt : i < zs.length := by omega
  obtain ⟨ad, rfl, g⟩ := int_at hs hlt
  have eI := l1In_run (base := base) (h := h) (x := zs.getD i 0) (a := 1) (b := 99999)
  have head : ∀ {r : Option (Nat × Slots × AH)}, (if lkBad zs v i = true then some (1, [some (.bool false)], h) else some (0, [some (.slice (some ad) zs.length zs.length), some (.int .i64 v), some (.int .i64 (IntKind.wrap .i64 ((i : Int) + (1 : Int))))], h)) = r → B107_0 base [some (.slice (some ad) zs.length zs.length), some (.int .i64 v), some (.int .i64 (i : Int))] h = r := by
   intro r hr
   rw [B107_0_eq]
   refine ifT (decide_eq_true (by omega)) ?_
   refine bj (q := ([some (.slice (some ad) zs.length zs.length), some (.int .i64 v), some (.int .i64 (i : Int)), some (.bool (lkBad zs v i))], h)) ?_ (bS rfl (bI rfl (bI rfl (bB rfl hr))))
   refine ifT ⟨by omega, by omega⟩ (bs rfl ?_)
   simp only [Int.toNat_natCast]
   refine bI g (bs eI (bB rfl ?_))
   unfold lkBad
   refine itJ (fun b => [some (.slice (some ad) zs.length zs.length), some (.int .i64 v), some (.int .i64 (i : Int)), some (.bool b)]) rfl ?_
   refine ifT ⟨by omega, by omega⟩ (bs rfl (bI g (itJ (fun b => [some (.slice (some ad) zs.length zs.length), some (.int .i64 v), some (.int .i64 (i : Int)), some (.bool b)]) rfl ?_)))
   by_cases c : (i : Int) > 0
   ·have hw : IntKind.wrap .i64 ((i : Int) - (1 : Int)) = ((i - 1 : Nat) : Int) := by rw [w64i (by omega) (by omega)]; omega
    obtain ⟨ad2, e2, g2⟩ := int_at hs (i := i - 1) (by omega)
    injection e2 with e2
    subst e2
    rw [decide_eq_true c, hw]
    refine ifT rfl (ifT ⟨by omega, by omega⟩ (bs rfl ?_))
    simp only [Int.toNat_natCast]
    exact bI g2 (ifT ⟨by omega, by omega⟩ (bs rfl (bI g rfl)))
   ·rw [decide_eq_false c]
    exact ifF (by decide) rfl
  rw [lkAny]
  cases c : lkBad zs v i with
  | true =>
   rw [Bool.true_or, if_pos rfl]
   exact loop_off (by decide) (head (by rw [c]; exact ifT rfl rfl))
  | false =>
   rw [Bool.false_or, ← ihd (i + 1) (by omega)]
   refine loop_on (head ?_) rfl
   rw [c, w64i (n := (i : Int) + 1) (by omega) (by omega)]
   exact ifF (by decide) rfl
theorem l9Links_run {base : Nat} {zs : List Int} {v : Int} {a : Option Addr} {h : AH} (hl : zs.length ≤ 9223372036854775807) (hs : Sl h a (iv .i64 zs)) : run (Et base) 107 [.slice a zs.length zs.length, .int .i64 v] h = some (.bool (lkOk zs v), h) := by
 have e := l9Links_loop (base := base) (v := v) hl hs zs.length 0 (by omega)
 rw [show ((0 : Nat) : Int) = 0 from rfl] at e
 unfold lkOk
 cases c : lkAny zs v zs.length 0 with
 | true =>
  rw [c, if_pos rfl] at e
  exact Am.r107 (bs e (ifT rfl (bB rfl rfl)))
 | false =>
  rw [c, if_neg (by decide)] at e
  exact Am.r107 (bs e (ifF (show ¬ (2 : Nat) = 1 by decide) (ifT rfl (bS rfl (by simp)))))
theorem linksOk_loop {base : Nat} {zs : List Int} {v : Int} {a : Option Addr} {h : AH} (hl : zs.length ≤ 9223372036854775807) (hs : Sl h a (iv .i64 zs)) : ∀ (d i : Nat), i + d = zs.length →
  loopL (B96_0 base) [some (.slice a zs.length zs.length), some (.int .i64 v), some (.slice a zs.length zs.length), some (.int .i64 (zs.length : Int)), some (.int .i64 (i : Int))] h = some (if lkAny zs v d i = true then (1, [some (.bool false)], h) else (2, [some (.slice a zs.length zs.length)], h)) := by
 intro d
 induction d with
 | zero =>
  intro i hi
  rw [lkAny, if_neg (by decide)]
  refine loop_off (by decide) ?_
  rw [B96_0_eq]
  exact ifF (by simp; omega) rfl
 | succ d ihd =>
  intro i hi
  have hlt : i < zs.length := by omega
  obtain ⟨ad, rfl, g⟩ := int_at hs hlt
  have eI := in_run (base := base) (h := h) (x := zs.getD i 0) (a := 1) (b := 99999)
  have head : ∀ {r : Option (Nat × Slots × AH)}, (if lkBad zs v i = true then some (1, [some (.bool false)], h) else some (0, [some (.slice (some ad) zs.length zs.length), some (.int .i64 v), some (.slice (some ad) zs.length zs.length), some (.int .i64 (zs.length : Int)), some (.int .i64 (IntKind.wrap .i64 ((i : Int) + (1 : Int))))], h)) = r → B96_0 base [some (.slice (some ad) zs.length zs.length), some (.int .i64 v), some (.slice (some ad) zs.length zs.length), some (.int .i64 (zs.length : Int)), some (.int .i64 (i : Int))] h = r := by
   intro r hr
   rw [B96_0_eq]
   refine ifT (decide_eq_true (by omega)) (ifT ⟨by omega, by omega⟩ (bs rfl ?_))
   simp only [Int.toNat_natCast]
   refine bI g ?_
   refine bj (q := ([some (.slice (some ad) zs.length zs.length), some (.int .i64 v), some (.slice (some ad) zs.length zs.length), some (.int .i64 (zs.length : Int)), some (.int .i64 (i : Int)), some (.bool (lkBad zs v i))], h)) ?_ (bS rfl (bI rfl (bS rfl (bI rfl (bI rfl (bB rfl hr))))))
   refine bs eI (bB rfl ?_)
   unfold lkBad
   refine itJ (fun b => [some (.slice (some ad) zs.length zs.length), some (.int .i64 v), some (.slice (some ad) zs.length zs.length), some (.int .i64 (zs.length : Int)), some (.int .i64 (i : Int)), some (.bool b)]) rfl (itJ (fun b => [some (.slice (some ad) zs.length zs.length), some (.int .i64 v), some (.slice (some ad) zs.length zs.length), some (.int .i64 (zs.length : Int)), some (.int .i64 (i : Int)), some (.bool b)]) rfl ?_)
   by_cases c : (i : Int) > 0
   ·have hw : IntKind.wrap .i64 ((i : Int) - (1 : Int)) = ((i - 1 : Nat) : Int) := by rw [w64i (by omega) (by omega)]; omega
    obtain ⟨ad2, e2, g2⟩ := int_at hs (i := i - 1) (by omega)
    injection e2 with e2
    subst e2
    rw [decide_eq_true c, hw]
    refine ifT rfl (ifT ⟨by omega, by omega⟩ (bs rfl ?_))
    simp only [Int.toNat_natCast]
    exact bI g2 rfl
   ·rw [decide_eq_false c]
    exact ifF (by decide) rfl
  rw [lkAny]
  cases c : lkBad zs v i with
  | true =>
   rw [Bool.true_or, if_pos rfl]
   exact loop_off (by decide) (head (by rw [c]; exact ifT rfl rfl))
  | false =>
   rw [Bool.false_or, ← ihd (i + 1) (by omega)]
   refine loop_on (head ?_) rfl
   rw [c, w64i (n := (i : Int) + 1) (by omega) (by omega)]
   exact ifF (by decide) rfl
theorem linksOk_run {base : Nat} {zs : List Int} {v : Int} {a : Option Addr} {h : AH} (hl : zs.length ≤ 9223372036854775807) (hs : Sl h a (iv .i64 zs)) : run (Et base) 96 [.slice a zs.length zs.length, .int .i64 v] h = some (.bool (lkOk zs v), h) := by
 have e := linksOk_loop (base := base) (v := v) hl hs zs.length 0 (by omega)
 rw [show ((0 : Nat) : Int) = 0 from rfl] at e
 unfold lkOk
 cases c : lkAny zs v zs.length 0 with
 | true =>
  rw [c, if_pos rfl] at e
  exact Am.r96 (bs e (ifT rfl (bB rfl rfl)))
 | false =>
  rw [c, if_neg (by decide)] at e
  exact Am.r96 (bs e (ifF (show ¬ (2 : Nat) = 1 by decide) (ifT rfl (bS rfl (by simp)))))
def acOk (f : Nat) (l : List In) (A : Ac) : Bool :=
 codeOk l && (inB A.pid 1 99999 && (inB A.pc 0 (IntKind.wrap .i64 ((l.length : Int) - (1 : Int))) && (((A.regs.length : Int) == (8 : Int)) && (tsB f A.regs && (decide ((A.box.length : Int) ≤ (30 : Int)) && (tsB f A.box && lkOk A.links A.pid))))))
theorem implActorOk_run {base f : Nat} {h : AH} {p : Nat → Prop} {l : List In} {c : Option Addr} {A : Ac} {cs : List Value} (hL : ∀ x ∈ l, x.s.size ≤ 9223372036854775807) (hl : l.length ≤ 9223372036854775807) (hc : Sl h c (insR l)) (hM : AcM A) (x : AcR h p f A cs) (hb : base ≤ h.length) :
  ∃ h', run (Et base) 40 [.slice c l.length l.length, .agg cs.toArray] h = some (.bool (acOk f l A), h') ∧ KB NoB h h' := by
 obtain ⟨a, b, g, rfl, hr, hx, hk, _⟩ := x
 obtain ⟨m1, m2, m3⟩ := hM
 obtain ⟨o1, k1, q1⟩ := box_own (base := base) (t := 65) (h := h) (cs := acV A.pid A.pc a A.regs.length b A.box.length g A.links.length) hb rfl
 generalize hh1 : h ++ [some (⟨acV A.pid A.pc a A.regs.length b A.box.length g A.links.length, 65⟩ : Blk)] = h1 at o1 k1 q1
 obtain ⟨h2, e2, k2⟩ := implCodeOk_run (base := base) hL hl (hc.keepN k1) (by omega)
 have n2 := k2.1
 have o2 := o1.keepN k2
 have k02 := kN k1 k2
 obtain ⟨h3, e3, k3⟩ := termsOk_run (base := base) m1 (hr.keep k02 fun _ _ h => h) (by omega)
 have n3 := k3.1
 have o3 := o2.keepN k3
 have k03 := kN k02 k3
 obtain ⟨h4, e4, k4⟩ := termsOk_run (base := base) m2 (hx.keep k03 fun _ _ h => h) (by omega)
 have o4 := o3.keepN k4
 have k04 := kN k03 k4
 have e5 := linksOk_run (base := base) (v := A.pid) m3 (hk.keepN k04)
 have e6 := in_run (base := base) (h := h2) (x := A.pid) (a := 1) (b := 99999)
 have e7 := in_run (base := base) (h := h2) (x := A.pc) (a := 0) (b := IntKind.wrap .i64 ((l.length : Int) - (1 : Int)))
 have start : ∀ {r : Value × AH}, _ = some r → run (Et base) 40 [.slice c l.length l.length, .agg (acV A.pid A.pc a A.regs.length b A.box.length g A.links.length).toArray] h = some r := fun {r} hr => Am.r40 (lets fun y ey => (by rw [ey, hh1]; exact bs e2 (bB rfl hr)))
 unfold acOk
 cases c1 : codeOk l with
 | false => exact ⟨h2, start (by rw [c1]; exact ifF (by decide) rfl), k02⟩
 | true =>
  cases c2 : inB A.pid 1 99999 with
  | false => rw [c2] at e6; exact ⟨h2, start (by rw [c1]; exact ifT rfl (bI (o2.at0 (i := 0) rfl) (bs e6 (bB rfl (ifF (by decide) rfl))))), k02⟩
  | true =>
   rw [c2] at e6
   cases c3 : inB A.pc 0 (IntKind.wrap .i64 ((l.length : Int) - (1 : Int))) with
   | false => rw [c3] at e7; exact ⟨h2, start (by rw [c1]; exact ifT rfl (bI (o2.at0 (i := 0) rfl) (bs e6 (bB rfl (ifT rfl (bI (o2.at0 (i := 1) rfl) (bs e7 (bB rfl (ifF (by decide) rfl))))))))), k02⟩
   | true =>
    rw [c3] at e7
    cases c4 : (A.regs.length : Int) == (8 : Int) with
    | false => exact ⟨h2, start (by rw [c1]; exact ifT rfl (bI (o2.at0 (i := 0) rfl) (bs e6 (bB rfl (ifT rfl (bI (o2.at0 (i := 1) rfl) (bs e7 (bB rfl (ifT rfl (bS (o2.at0 (i := 2) rfl) (ifF (by simp [c4]) rfl))))))))))), k02⟩
    | true =>
     cases c5 : tsB f A.regs with
     | false => rw [c5] at e3; exact ⟨h3, start (by rw [c1]; exact ifT rfl (bI (o2.at0 (i := 0) rfl) (bs e6 (bB rfl (ifT rfl (bI (o2.at0 (i := 1) rfl) (bs e7 (bB rfl (ifT rfl (bS (o2.at0 (i := 2) rfl) (ifT c4 (bS (o2.at0 (i := 2) rfl) (bs e3 (bB rfl (ifF (by decide) rfl))))))))))))))), k03⟩
     | true =>
      rw [c5] at e3
      by_cases c6 : (A.box.length : Int) ≤ 30
      ·rw [decide_eq_true c6]
       cases c7 : tsB f A.box with
       | false => rw [c7] at e4; exact ⟨h4, start (by rw [c1]; exact ifT rfl (bI (o2.at0 (i := 0) rfl) (bs e6 (bB rfl (ifT rfl (bI (o2.at0 (i := 1) rfl) (bs e7 (bB rfl (ifT rfl (bS (o2.at0 (i := 2) rfl) (ifT c4 (bS (o2.at0 (i := 2) rfl) (bs e3 (bB rfl (ifT rfl (bS (o3.at0 (i := 3) rfl) (ifT (decide_eq_true c6) (bS (o3.at0 (i := 3) rfl) (bs e4 (bB rfl (ifF (by decide) rfl))))))))))))))))))))), k04⟩
       | true => rw [c7] at e4; exact ⟨h4, start (by rw [c1]; exact ifT rfl (bI (o2.at0 (i := 0) rfl) (bs e6 (bB rfl (ifT rfl (bI (o2.at0 (i := 1) rfl) (bs e7 (bB rfl (ifT rfl (bS (o2.at0 (i := 2) rfl) (ifT c4 (bS (o2.at0 (i := 2) rfl) (bs e3 (bB rfl (ifT rfl (bS (o3.at0 (i := 3) rfl) (ifT (decide_eq_true c6) (bS (o3.at0 (i := 3) rfl) (bs e4 (bB rfl (ifT rfl (bS (o4.at0 (i := 4) rfl) (bI (o4.at0 (i := 0) rfl) (bs e5 (bB rfl rfl))))))))))))))))))))))))), k04⟩
      ·rw [decide_eq_false c6]
       exact ⟨h3, start (by rw [c1]; exact ifT rfl (bI (o2.at0 (i := 0) rfl) (bs e6 (bB rfl (ifT rfl (bI (o2.at0 (i := 1) rfl) (bs e7 (bB rfl (ifT rfl (bS (o2.at0 (i := 2) rfl) (ifT c4 (bS (o2.at0 (i := 2) rfl) (bs e3 (bB rfl (ifT rfl (bS (o3.at0 (i := 3) rfl) (ifF (by simpa using c6) rfl))))))))))))))))), k03⟩
end Go.Proofs.Ytjmkbglnjklbcaa.Am
set_option linter.unusedSimpArgs false
set_option linter.unusedVariables false
namespace Go.Proofs.Ytjmkbglnjklbcaa.Am
open Go Go.RowKit
abbrev Ds := List (Nat × Nat × List Value)
structure Rs where
 S : Fp
 mu : Bool
 A : AH → Prop
def Rs.Ok (r : Rs) : Prop := ∀ (U : Fp) (h h' : AH), KB U h h' → (∀ b, r.S b → ¬ U b) → r.A h → r.A h'
def Rs.dj (r s : Rs) : Prop := (r.mu || s.mu) = true → ∀ b, r.S b → ¬ s.S b
theorem Rs.dj.symm {r s : Rs} (x : r.dj s) : s.dj r := fun e b h1 h2 => x (by rw [Bool.or_comm]; exact e) b h2 h1
structure Hs (base : Nat) (W : Fp) (h0 h : AH) (D : Ds) (R : List Rs) : Prop where
 ge : base ≤ h.length
 kb : KB W h0 h
 own : ∀ x ∈ D, Own base x.2.1 h (at0 x.1) x.2.2 ∧ (W x.1 ∨ h0.length ≤ x.1)
 nd : (D.map (·.1)).Nodup
 res : ∀ r ∈ R, r.A h ∧ r.Ok ∧ (∀ b, r.S b → b < h.length) ∧ (r.mu = true → ∀ b, r.S b → W b ∨ h0.length ≤ b) ∧ ∀ x ∈ D, ¬ r.S x.1
 dj : R.Pairwise Rs.dj
inductive Upd {α : Type} : List α → α → α → List α → Prop
 | here {x y : α} {l : List α} : Upd (x :: l) x y (y :: l)
 | there {x y z : α} {l l' : List α} : Upd l x y l' → Upd (z :: l) x y (z :: l')
theorem Upd.mem {α : Type} {l l' : List α} {x y : α} (u : Upd l x y l') : x ∈ l := by
 induction u with
 | here => exact .head _
 | there _ ih => exact .tail _ ih
theorem Upd.of {α : Type} {l l' : List α} {x y : α} (u : Upd l x y l') : ∀ z ∈ l', z = y ∨ z ∈ l := by
 induction u with
 | here => exact fun z hz => (List.mem_cons.1 hz).imp id fun h => .tail _ h
 | there _ ih =>
  intro z hz
  rcases List.mem_cons.1 hz with rfl | hz
  ·exact .inr (.head _)
  ·exact (ih z hz).imp id fun h => .tail _ h
theorem Upd.fst {l l' : Ds} {x y : Nat × Nat × List Value} (u : Upd l x y l') (e : x.1 = y.1) : l'.map (·.1) = l.map (·.1) := by
 induction u with
 | here => simp [e]
 | there _ ih => simp [ih e]
theorem Upd.others {l l' : Ds} {x y : Nat × Nat × List Value} (u : Upd l x y l') (e : x.1 = y.1) (nd : (l.map (·.1)).Nodup) : ∀ z ∈ l', z = y ∨ (z ∈ l ∧ z.1 ≠ x.1) := by
 induction u with
 | @here x y l =>
  intro z hz
  rcases List.mem_cons.1 hz with rfl | hz
  ·exact .inl rfl
  ·refine .inr ⟨.tail _ hz, fun h => ?_⟩
   have := (List.nodup_cons.1 nd).1
   exact this (List.mem_map.2 ⟨z, hz, h⟩)
 | @there x y w l l' u ih =>
  have nd' := List.nodup_cons.1 nd
  intro z hz
  rcases List.mem_cons.1 hz with rfl | hz
  ·refine .inr ⟨.head _, fun h => nd'.1 (List.mem_map.2 ⟨_, u.mem, h.symm⟩)⟩
  ·exact (ih e nd'.2 z hz).imp id fun h => ⟨.tail _ h.1, h.2⟩
theorem Upd.pair {l l' : List Rs} {x y : Rs} (u : Upd l x y l') (p : l.Pairwise Rs.dj) (hy : ∀ z ∈ l, z.dj x → z.dj y) : l'.Pairwise Rs.dj := by
 induction u with
 | @here x y l =>
  rw [List.pairwise_cons] at p ⊢
  exact ⟨fun z hz => (hy z (.tail _ hz) (p.1 z hz).symm).symm, p.2⟩
 | @there x y w l l' u ih =>
  rw [List.pairwise_cons] at p ⊢
  refine ⟨fun z hz => ?_, ih p.2 fun z hz => hy z (.tail _ hz)⟩
  rcases u.of z hz with rfl | hz
  ·exact hy w (.head _) (p.1 _ u.mem)
  ·exact p.1 z hz
theorem Upd.at {α : Type} {l : List α} {x : α} : ∀ {i : Nat}, l[i]? = some x → ∀ {y : α}, Upd l x y (l.set i y) := by
 induction l with
 | nil => intro i e; simp at e
 | cons z l ih =>
  intro i e y
  cases i with
  | zero => simp at e; subst e; exact .here
  | succ i => exact .there (ih (by simpa using e))
inductive Del {α : Type} : List α → α → List α → Prop
 | here {x : α} {l : List α} : Del (x :: l) x l
 | there {x z : α} {l l' : List α} : Del l x l' → Del (z :: l) x (z :: l')
theorem Del.at {α : Type} {l : List α} {x : α} : ∀ {i : Nat}, l[i]? = some x → Del l x (l.eraseIdx i) := by
 induction l with
 | nil => intro i e; simp at e
 | cons z l ih =>
  intro i e
  cases i with
  | zero => simp at e; subst e; exact .here
  | succ i => exact .there (ih (by simpa using e))
theorem Del.mem {α : Type} {l l' : List α} {x : α} (u : Del l x l') : x ∈ l := by
 induction u with
 | here => exact .head _
 | there _ ih => exact .tail _ ih
theorem Del.of {α : Type} {l l' : List α} {x : α} (u : Del l x l') : ∀ z ∈ l', z ∈ l := by
 induction u with
 | here => exact fun z hz => .tail _ hz
 | there _ ih =>
  intro z hz
  rcases List.mem_cons.1 hz with rfl | hz
  ·exact .head _
  ·exact .tail _ (ih z hz)
theorem Del.others {l l' : Ds} {x : Nat × Nat × List Value} (u : Del l x l') (nd : (l.map (·.1)).Nodup) : (l'.map (·.1)).Nodup ∧ ∀ z ∈ l', z.1 ≠ x.1 := by
 induction u with
 | @here x l =>
  have nd := List.nodup_cons.1 nd
  exact ⟨nd.2, fun z hz e => nd.1 (List.mem_map.2 ⟨z, hz, e⟩)⟩
 | @there x z l l' u ih =>
  have nd := List.nodup_cons.1 nd
  obtain ⟨h1, h2⟩ := ih nd.2
  refine ⟨List.nodup_cons.2 ⟨fun hm => ?_, h1⟩, fun y hy => ?_⟩
  ·obtain ⟨y, hy, e⟩ := List.mem_map.1 hm
   exact nd.1 (List.mem_map.2 ⟨y, u.of y hy, e⟩)
  ·rcases List.mem_cons.1 hy with rfl | hy
   ·exact fun e => nd.1 (List.mem_map.2 ⟨_, u.mem, e.symm⟩)
   ·exact h2 y hy
theorem Upd.key {l l' : List Rs} {r r' : Rs} (u : Upd l r r' l') : l.Pairwise Rs.dj → ∀ s ∈ l', s = r' ∨ (s ∈ l ∧ s.dj r) := by
 induction u with
 | @here x y l =>
  intro p s hs
  rw [List.pairwise_cons] at p
  rcases List.mem_cons.1 hs with rfl | hs
  ·exact .inl rfl
  ·exact .inr ⟨.tail _ hs, (p.1 s hs).symm⟩
 | @there x y w l l' u ih =>
  intro p s hs
  rw [List.pairwise_cons] at p
  rcases List.mem_cons.1 hs with rfl | hs
  ·exact .inr ⟨.head _, p.1 _ u.mem⟩
  ·exact (ih p.2 s hs).imp id fun h => ⟨.tail _ h.1, h.2⟩
theorem Upd.off {l l' : List Rs} {s e : Rs} (u : Upd l s e l') (he : ∀ b, ¬ e.S b) (ms : s.mu = true) : l.Pairwise Rs.dj → ∀ z ∈ l', ∀ b, z.S b → ¬ s.S b := by
 induction u with
 | @here x y l =>
  intro p z hz b h1 h2
  rw [List.pairwise_cons] at p
  rcases List.mem_cons.1 hz with rfl | hz
  ·exact he b h1
  ·exact p.1 z hz (by rw [ms]; simp) b h2 h1
 | @there x y w l l' u ih =>
  intro p z hz b h1 h2
  rw [List.pairwise_cons] at p
  rcases List.mem_cons.1 hz with rfl | hz
  ·exact p.1 _ u.mem (by rw [ms]; simp) b h1 h2
  ·exact ih he ms p.2 z hz b h1 h2
theorem Upd.two {α : Type} {l l' : List α} {x y : α} (z : α) (u : Upd l x y l') : ∃ m, Upd l x z m ∧ Upd m z y l' := by
 induction u with
 | here => exact ⟨_, .here, .here⟩
 | there u ih =>
  obtain ⟨m, h1, h2⟩ := ih
  exact ⟨_, .there h1, .there h2⟩
namespace Hs
variable {base : Nat} {W : Fp} {h0 h : AH} {D : Ds} {R : List Rs}
theorem start (hb : base ≤ h.length) : Hs base NoB h h [] [] := ⟨hb, KB.refl _ _, fun x hx => (nomatch hx), by simp, fun r hr => (nomatch hr), .nil⟩
theorem keep {U : Fp} {h' : AH} (d : Hs base W h0 h D R) (k : KB U h h') (h1 : ∀ b, U b → b < h.length → W b ∨ h0.length ≤ b) (h2 : ∀ x ∈ D, ¬ U x.1) (h3 : ∀ r ∈ R, ∀ b, r.S b → ¬ U b) : Hs base W h0 h' D R := by
 refine ⟨Nat.le_trans d.ge k.1, KB.trans d.kb k (fun _ _ h => h) (fun i hi hu => ?_), fun x hx => ⟨(d.own x hx).1.keep k fun b hb hu => h2 x hx ((blk_at0.1 hb) ▸ hu), (d.own x hx).2⟩, d.nd, fun r hr => ?_, d.dj⟩
 ·rcases h1 i hu (Nat.lt_of_lt_of_le hi d.kb.1) with h | h
  ·exact h
  ·exact absurd hi (by omega)
 ·obtain ⟨r1, r2, r3, r4⟩ := d.res r hr
  exact ⟨r2 U h h' k (h3 r hr) r1, r2, fun b hb => Nat.lt_of_lt_of_le (r3 b hb) k.1, r4⟩
theorem kN {h' : AH} (d : Hs base W h0 h D R) (k : KB NoB h h') : Hs base W h0 h' D R := d.keep k (fun _ h => h.elim) (fun _ _ h => h) (fun _ _ _ _ h => h)
theorem call {h' : AH} (d : Hs base W h0 h D R) (k : KB NoB h h') (S : Fp) (A : AH → Prop) (hA : A h') (ok : ∀ (U : Fp) (h h' : AH), KB U h h' → (∀ b, S b → ¬ U b) → A h → A h') (hS : ∀ b, S b → h.length ≤ b ∧ b < h'.length) : Hs base W h0 h' D (R ++ [⟨S, true, A⟩]) := by
 have d' := d.kN k
 refine ⟨d'.ge, d'.kb, d'.own, d'.nd, fun r hr => ?_, ?_⟩
 ·rcases List.mem_append.1 hr with hr | hr
  ·exact d'.res r hr
  ·rw [List.mem_singleton] at hr
   subst hr
   refine ⟨hA, ok, fun b hb => (hS b hb).2, fun _ b hb => .inr ?_, fun x hx hS' => ?_⟩
   ·have := (hS b hb).1
    have := d.kb.1
    omega
   ·have := ((d.own x hx).1.lt (blk_at0.2 rfl)).2
    have := (hS _ hS').1
    omega
 ·rw [List.pairwise_append]
  refine ⟨d'.dj, by simp, fun r hr s hs e b h1 h2 => ?_⟩
  rw [List.mem_singleton] at hs
  subst hs
  have := (d.res r hr).2.2.1 b h1
  have := (hS b h2).1
  omega
theorem call2 {h' : AH} (d : Hs base W h0 h D R) (k : KB NoB h h') (S T : Fp) (A B : AH → Prop) (hA : A h') (hB : B h') (okA : ∀ (U : Fp) (h h' : AH), KB U h h' → (∀ b, S b → ¬ U b) → A h → A h') (okB : ∀ (U : Fp) (h h' : AH), KB U h h' → (∀ b, T b → ¬ U b) → B h → B h') (hS : ∀ b, S b → h.length ≤ b ∧ b < h'.length) (hT : ∀ b, T b → h.length ≤ b ∧ b < h'.length) (hd : ∀ b, S b → ¬ T b) : Hs base W h0 h' D (R ++ [⟨S, true, A⟩] ++ [⟨T, true, B⟩]) := by
 have d1 := d.call k S A hA okA hS
 have d2 := d.call k T B hB okB hT
 refine ⟨d1.ge, d1.kb, d1.own, d1.nd, fun r hr => ?_, ?_⟩
 ·rcases List.mem_append.1 hr with hr | hr
  ·exact d1.res r hr
  ·exact d2.res r (List.mem_append_right _ hr)
 ·rw [List.pairwise_append]
  refine ⟨d1.dj, by simp, fun r hr s hs => ?_⟩
  rcases List.mem_append.1 hr with hr | hr
  ·exact (List.pairwise_append.1 d2.dj).2.2 r hr s hs
  ·rw [List.mem_singleton] at hr hs
   subst hr; subst hs
   exact fun _ => hd
theorem rs (d : Hs base W h0 h D R) {i : Nat} {r : Rs} (e : R[i]? = some r) : r.A h := (d.res r (List.mem_of_getElem? e)).1
theorem rlt (d : Hs base W h0 h D R) {i : Nat} {r : Rs} (e : R[i]? = some r) : ∀ b, r.S b → b < h.length := (d.res r (List.mem_of_getElem? e)).2.2.1
theorem rfr (d : Hs base W h0 h D R) {i : Nat} {r : Rs} (e : R[i]? = some r) (m : r.mu = true) : ∀ b, r.S b → W b ∨ h0.length ≤ b := (d.res r (List.mem_of_getElem? e)).2.2.2.1 m
theorem getI {b t o : Nat} {cs : List Value} {v : Value} (d : Hs base W h0 h D R) (m : (b, t, cs) ∈ D) (e : cs[o]? = some v) : Am.cell h b o = some v := (d.own _ m).1.at0 e
theorem lt {b t : Nat} {cs : List Value} (d : Hs base W h0 h D R) (m : (b, t, cs) ∈ D) : b < h.length := ((d.own _ m).1.lt (blk_at0.2 rfl)).2
theorem ol {b t : Nat} {cs : List Value} (d : Hs base W h0 h D R) (m : (b, t, cs) ∈ D) : Own base t h (at0 b) cs := (d.own _ m).1
theorem new (d : Hs base W h0 h D R) (t : Nat) (cs : List Value) : Hs base W h0 (h ++ [some ⟨cs, t⟩]) ((h.length, t, cs) :: D) R := by
 obtain ⟨o1, k1, q1⟩ := box_own (base := base) (t := t) (h := h) (cs := cs) d.ge rfl
 have d' := d.kN k1
 refine ⟨d'.ge, d'.kb, fun x hx => ?_, ?_, fun r hr => ?_, d'.dj⟩
 ·rcases List.mem_cons.1 hx with rfl | hx
  ·exact ⟨o1, .inr d.kb.1⟩
  ·exact d'.own x hx
 ·rw [List.map_cons, List.nodup_cons]
  refine ⟨fun hm => ?_, d'.nd⟩
  obtain ⟨x, hx, e⟩ := List.mem_map.1 hm
  have := ((d.own x hx).1.lt (blk_at0.2 rfl)).2
  simp only at e
  omega
 ·obtain ⟨r1, r2, r3, r4, r5⟩ := d'.res r hr
  refine ⟨r1, r2, r3, r4, fun x hx hS => ?_⟩
  rcases List.mem_cons.1 hx with rfl | hx
  ·have := (d.res r hr).2.2.1 _ hS
   simp only at this
   omega
  ·exact r5 x hx hS
theorem wr {b t o : Nat} {cs new : List Value} {D' : Ds} (d : Hs base W h0 h D R) (u : Upd D (b, t, cs) (b, t, setAt cs o new) D') (hi : o + new.length ≤ cs.length) (hz : 0 < new.length) :
  ∃ h1, Am.wr base h b o new = some h1 ∧ Hs base W h0 h1 D' R ∧ h1.length = h.length ∧ KB (· = b) h h1 := by
 obtain ⟨h1, e, o1, k1, l1⟩ := ((d.own _ u.mem).1).wr0 hi hz
 refine ⟨h1, e, ⟨by rw [l1]; exact d.ge, KB.trans d.kb k1 (fun _ _ h => h) (fun i hi hu => ?_), fun x hx => ?_, ?_, fun r hr => ?_, d.dj⟩, l1, k1⟩
 ·simp only at hu
  subst hu
  rcases (d.own _ u.mem).2 with h | h
  ·exact h
  ·simp only at h; omega
 ·rcases u.others rfl d.nd x hx with rfl | ⟨hx, hne⟩
  ·exact ⟨o1, (d.own _ u.mem).2⟩
  ·exact ⟨(d.own x hx).1.keepB k1 fun i hi => (blk_at0.1 hi) ▸ hne, (d.own x hx).2⟩
 ·rw [u.fst rfl]; exact d.nd
 ·obtain ⟨r1, r2, r3, r4, r5⟩ := d.res r hr
  refine ⟨r2 _ _ _ k1 (fun i hS hi => ?_) r1, r2, fun b hb => by rw [l1]; exact r3 b hb, r4, fun x hx => ?_⟩
  ·simp only at hi
   subst hi
   exact r5 _ u.mem hS
  ·rcases u.others rfl d.nd x hx with rfl | ⟨hx, _⟩
   ·exact fun h => r5 _ u.mem h
   ·exact r5 x hx
theorem upd {U : Fp} {h' : AH} {r r' : Rs} {R' : List Rs} (d : Hs base W h0 h D R) (u : Upd R r r' R') (m : r.mu = true) (m' : r'.mu = true) (k : KB U h h') (hU : ∀ b, U b → r.S b ∨ h.length ≤ b) (hA : r'.A h') (ok : r'.Ok) (hS : ∀ b, r'.S b → r.S b ∨ (h.length ≤ b ∧ b < h'.length)) : Hs base W h0 h' D R' := by
 obtain ⟨r1, r2, r3, r4, r5⟩ := d.res r u.mem
 have hb := d.kb.1
 have hUD : ∀ x ∈ D, ¬ U x.1 := fun x hx hu => by
  have := ((d.own x hx).1.lt (blk_at0.2 rfl)).2
  rcases hU _ hu with h | h
  ·exact r5 x hx h
  ·omega
 refine ⟨Nat.le_trans d.ge k.1, KB.trans d.kb k (fun _ _ h => h) (fun i hi hu => ?_), fun x hx => ⟨(d.own x hx).1.keep k fun b hb hu => hUD x hx ((blk_at0.1 hb) ▸ hu), (d.own x hx).2⟩, d.nd, ?_, ?_⟩
 ·rcases hU i hu with h | h
  ·exact (r4 m i h).resolve_right (by omega)
  ·omega
 ·intro s hs
  rcases u.key d.dj s hs with rfl | ⟨hs, hd⟩
  ·refine ⟨hA, ok, fun b hb => ?_, fun _ b hb => ?_, fun x hx hS' => ?_⟩
   ·rcases hS b hb with h | h
    ·exact Nat.lt_of_lt_of_le (r3 b h) k.1
    ·exact h.2
   ·rcases hS b hb with h | h
    ·exact r4 m b h
    ·exact .inr (by omega)
   ·have := ((d.own x hx).1.lt (blk_at0.2 rfl)).2
    rcases hS _ hS' with h | h
    ·exact r5 x hx h
    ·omega
  ·obtain ⟨s1, s2, s3, s4, s5⟩ := d.res s hs
   refine ⟨s2 U h h' k (fun b hb hu => ?_) s1, s2, fun b hb => Nat.lt_of_lt_of_le (s3 b hb) k.1, s4, s5⟩
   rcases hU b hu with h | h
   ·exact hd (by rw [m]; simp) b hb h
   ·have := s3 b hb; omega
 ·refine u.pair d.dj fun z hz hd e b h1 h2 => ?_
  rcases hS b h2 with h | h
  ·exact hd (by rw [m]; simp) b h1 h
  ·have := (d.res z hz).2.2.1 b h1; omega
theorem re {r r' : Rs} {R' : List Rs} (d : Hs base W h0 h D R) (u : Upd R r r' R') (m : r.mu = true) (m' : r'.mu = true) (hA : r'.A h) (ok : r'.Ok) (hS : ∀ b, r'.S b → r.S b) : Hs base W h0 h D R' :=
 d.upd u m m' (KB.refl NoB h) (fun _ h => h.elim) hA ok fun b hb => .inl (hS b hb)
theorem join {U : Fp} {h' : AH} {r s r' : Rs} {R1 R2 : List Rs} (d : Hs base W h0 h D R) (us : Upd R s ⟨fun _ => False, true, fun _ => True⟩ R1) (ur : Upd R1 r r' R2) (ms : s.mu = true) (m : r.mu = true) (m' : r'.mu = true) (k : KB U h h') (hU : ∀ b, U b → r.S b ∨ h.length ≤ b) (hA : r'.A h') (ok : r'.Ok) (hS : ∀ b, r'.S b → r.S b ∨ s.S b ∨ (h.length ≤ b ∧ b < h'.length)) : Hs base W h0 h' D R2 := by
 have dE : Hs base W h0 h D R1 := d.re us ms rfl trivial (fun _ _ _ _ _ h => h) (fun _ h => h.elim)
 obtain ⟨r1, r2, r3, r4, r5⟩ := dE.res r ur.mem
 obtain ⟨s1, s2, s3, s4, s5⟩ := d.res s us.mem
 have dj1 := us.off (fun _ h => h) ms d.dj
 obtain ⟨R3, u1, u2⟩ := ur.two ⟨fun b => r.S b ∨ s.S b, true, r.A⟩
 have dF : Hs base W h0 h D R3 := by
  refine ⟨dE.ge, dE.kb, dE.own, dE.nd, fun z hz => ?_, ?_⟩
  ·rcases u1.of z hz with rfl | hz
   ·refine ⟨r1, fun U h h' k hk => r2 U h h' k fun b hb => hk b (.inl hb), fun b hb => hb.elim (r3 b) (s3 b), fun _ b hb => hb.elim (r4 m b) (s4 ms b), fun x hx hb => hb.elim (r5 x hx) (s5 x hx)⟩
   ·exact dE.res z hz
  ·refine u1.pair dE.dj fun z hz hd e b h1 h2 => ?_
   rcases h2 with h2 | h2
   ·exact hd (by rw [m]; simp) b h1 h2
   ·exact dj1 z hz b h1 h2
 exact dF.upd u2 rfl m' k (fun b hb => (hU b hb).imp .inl id) hA ok fun b hb => by
  rcases hS b hb with h | h | h
  ·exact .inl (.inl h)
  ·exact .inl (.inr h)
  ·exact .inr h
theorem unbox (d : Hs base W h0 h D R) {b t : Nat} {cs : List Value} {D' : Ds} (u : Del D (b, t, cs) D') : Hs base W h0 h D' (R ++ [⟨(· = b), true, fun y => Own base t y (at0 b) cs⟩]) := by
 obtain ⟨n1, n2⟩ := u.others d.nd
 refine ⟨d.ge, d.kb, fun x hx => d.own x (u.of x hx), n1, fun r hr => ?_, ?_⟩
 ·rcases List.mem_append.1 hr with hr | hr
  ·obtain ⟨r1, r2, r3, r4, r5⟩ := d.res r hr
   exact ⟨r1, r2, r3, r4, fun x hx => r5 x (u.of x hx)⟩
  ·rw [List.mem_singleton] at hr
   subst hr
   refine ⟨(d.own _ u.mem).1, fun U y y' k hk x => x.keep k fun i hi hu => hk i (blk_at0.1 hi) hu, fun i hi => ?_, fun _ i hi => ?_, fun x hx hi => n2 x hx hi⟩
   ·simp only at hi; subst hi; exact d.lt u.mem
   ·simp only at hi; subst hi; exact (d.own _ u.mem).2
 ·rw [List.pairwise_append]
  refine ⟨d.dj, by simp, fun r hr s hs e i h1 h2 => ?_⟩
  rw [List.mem_singleton] at hs
  subst hs
  simp only at h2
  subst h2
  exact (d.res r hr).2.2.2.2 _ u.mem h1
theorem callP {h' : AH} {α : Type} {P : Fp → AH → α → List Value → Prop} (d : Hs base W h0 h D R) (kp : Kp P) (k : KB NoB h h') {x : α} {cs : List Value} (hx : P (iS h.length h'.length) h' x cs) : Hs base W h0 h' D (R ++ [⟨iS h.length h'.length, true, fun y => P (iS h.length h'.length) y x cs⟩]) :=
 d.call k _ _ hx (fun U y y' ky hs z => kp _ U y y' x cs ky hs z) fun b hb => hb
theorem joinO {U : Fp} {h' : AH} {r s : Rs} {R1 R2 : List Rs} {α : Type} {t w : Nat} {P : Fp → AH → α → List Value → Prop} {l : List α} {a : Option Addr} {S' : Fp} (d : Hs base W h0 h D R) (kp : Kp P) (us : Upd R s ⟨fun _ => False, true, fun _ => True⟩ R1) (ur : Upd R1 r ⟨S', true, fun y => RowO base t w P S' y l a⟩ R2) (ms : s.mu = true) (m : r.mu = true) (k : KB U h h') (hA : RowO base t w P S' h' l a) (hU : ∀ b, U b → r.S b ∨ h.length ≤ b) (hS : ∀ b, S' b → r.S b ∨ s.S b ∨ (h.length ≤ b ∧ b < h'.length)) : Hs base W h0 h' D R2 :=
 d.join us ur ms m rfl k hU hA (fun U y y' ky hs z => z.keep kp ky hs) hS
theorem joinP {U : Fp} {h' : AH} {r s : Rs} {R1 R2 : List Rs} {α : Type} {P : Fp → AH → α → List Value → Prop} {x : α} {cs : List Value} {S' : Fp} (d : Hs base W h0 h D R) (kp : Kp P) (us : Upd R s ⟨fun _ => False, true, fun _ => True⟩ R1) (ur : Upd R1 r ⟨S', true, fun y => P S' y x cs⟩ R2) (ms : s.mu = true) (m : r.mu = true) (k : KB U h h') (hA : P S' h' x cs) (hU : ∀ b, U b → r.S b ∨ h.length ≤ b) (hS : ∀ b, S' b → r.S b ∨ s.S b ∨ (h.length ≤ b ∧ b < h'.length)) : Hs base W h0 h' D R2 :=
 d.join us ur ms m rfl k hU hA (fun U y y' ky hs z => kp _ U y y' x cs ky hs z) hS
theorem out {α : Type} {P : Fp → AH → α → List Value → Prop} (d : Hs base NoB h0 h D R) (mo : Mo P) {i : Nat} {S : Fp} {x : α} {cs : List Value} (e : R[i]? = some ⟨S, true, fun y => P S y x cs⟩) : P (iS h0.length h.length) h x cs :=
 mo S _ h x cs (fun b hb => ⟨(d.rfr e rfl b hb).resolve_left (fun h => h), d.rlt e b hb⟩) (d.rs e)
end Hs
theorem TmR.opn {h : AH} {p : Nat → Prop} {f : Nat} {t : Tm} {k n : Int} {s : ByteArray} {a : Option Addr} {m : Nat} (x : TmR h p (f + 1) t (termV k n s a m)) : ∃ l, t = .mk k n s l ∧ m = l.length ∧ TsR h p f l a ∧ s.size ≤ maxLen ∧ l.length ≤ maxLen := by
 obtain ⟨k', n', s', l⟩ := t
 obtain ⟨a', e, h1, h2, h3⟩ := x.parts
 injection e with q0 e
 injection e with q1 e
 injection e with q2 e
 injection e with q3 _
 injection q0 with _ q0; injection q1 with _ q1; injection q2 with q2; injection q3 with q3 q4 _
 subst q0; subst q1; subst q2; subst q3
 exact ⟨l, rfl, q4, h1, h2, h3⟩
theorem n1 {α : Type} {l : List α} : [] ++ l = l := rfl
theorem n2 {α : Type} {x : α} {l m : List α} : x :: l ++ m = x :: (l ++ m) := rfl
theorem n3 {α : Type} {x y : α} {l : List α} : (x :: l).set 0 y = y :: l := rfl
theorem n4 {α : Type} {x y : α} {l : List α} {n : Nat} : (x :: l).set (n + 1) y = x :: l.set n y := rfl
theorem n5 {α : Type} {x : α} {l : List α} : (x :: l).eraseIdx 0 = l := rfl
theorem n6 {α : Type} {x : α} {l : List α} {n : Nat} : (x :: l).eraseIdx (n + 1) = x :: l.eraseIdx n := rfl
namespace W
variable {β γ : Type} {Q : β → Prop} {base : Nat} {Wr : Fp} {h0 h : AH} {D : Ds} {R : List Rs}
theorem rB (d : Hs base Wr h0 h D R) {b t o : Nat} {cs : List Value} {v : Bool} {f : Bool → Option β} (m : (b, t, cs) ∈ D) (e : cs[o]? = some (.bool v)) (w : Wp (f v) Q) : Wp (((Am.cell h b o).bind getB).bind f) Q := W.bB (d.getI m e) w
theorem rA (d : Hs base Wr h0 h D R) {b t o : Nat} {cs : List Value} {a : Addr} {f : Addr → Option β} (m : (b, t, cs) ∈ D) (e : cs[o]? = some (.pointer (some a))) (w : Wp (f a) Q) : Wp (((Am.cell h b o).bind getA).bind f) Q := W.bA (d.getI m e) w
theorem nD (d : Hs base Wr h0 h D R) {t : Nat} {cs : List Value} {f : AH → Option β} (w : ∀ h1, Hs base Wr h0 h1 ((h.length, t, cs) :: D) R → h1.length = h.length + 1 → KB NoB h h1 → Wp (f h1) Q) : Wp ((some (h ++ [some ⟨cs, t⟩])).bind f) Q := w _ (d.new t cs) (by simp) (KB.push _ _ _)
theorem wD (d : Hs base Wr h0 h D R) {b t o : Nat} {cs new : List Value} {D' : Ds} {f : AH → Option β} (u : Upd D (b, t, cs) (b, t, setAt cs o new) D') (hi : Nat.ble (o + new.length) cs.length = true) (hz : Nat.blt 0 new.length = true) (w : ∀ h1, Hs base Wr h0 h1 D' R → h1.length = h.length → KB (· = b) h h1 → Wp (f h1) Q) : Wp ((Am.wr base h b o new).bind f) Q := by
 obtain ⟨h1, e, d1, l1, k1⟩ := d.wr u (Nat.le_of_ble_eq_true hi) (by rw [Nat.blt_eq] at hz; exact hz)
 rw [e]
 exact w h1 d1 l1 k1
theorem gS (d : Hs base Wr h0 h D R) {b t o n : Nat} {cs cs1 : List Value} {Wr1 : Fp} {h01 h1 : AH} {D1 : Ds} {R1 : List Rs} {x : Option β} (m : (b, t, cs) ∈ D) (d1 : Hs base Wr1 h01 h1 D1 R1) (m1 : (b, t, cs1) ∈ D1) (e : (cs1.drop o).take n = (cs.drop o).take n) (hl : Nat.ble (o + n) cs.length = true) (hl1 : Nat.ble (o + n) cs1.length = true) (w : Wp x Q) : Wp (gate (sameA h1 h (some ⟨b, o, none⟩) n) x) Q := by
 refine W.gt (fun ad ea => ?_) w
 injection ea with ea
 subst ea
 have hl := Nat.le_of_ble_eq_true hl
 have hl1 := Nat.le_of_ble_eq_true hl1
 refine ⟨fun j hj => ?_, ?_⟩
 ·have e2 : (cs1.drop o)[j]? = (cs.drop o)[j]? := by
   have := congrArg (·[j]?) e
   simp only [List.getElem?_take_of_lt hj] at this
   exact this
  rw [List.getElem?_drop, List.getElem?_drop] at e2
  have g1 := d1.getI m1 (o := o + j) (List.getElem?_eq_getElem (by omega))
  have g2 := d.getI m (o := o + j) (List.getElem?_eq_getElem (by omega))
  rw [List.getElem?_eq_getElem (by omega), List.getElem?_eq_getElem (by omega)] at e2
  injection e2 with e2
  show Am.cell h1 b (o + j) = Am.cell h b (o + j)
  rw [g1, g2, e2]
 ·have ty : ∀ {h : AH} {cs : List Value}, Own base t h (at0 b) cs → (hget h b).map (·.ty) = some t := fun o => by
   rcases o with ⟨e, _⟩ | ⟨ad, k, e1, _, e2, e3, _⟩
   ·cases e
   ·injection e1 with e1
    subst e1
    rw [e2]
    simp [e3]
  show (hget h1 b).map (·.ty) = (hget h b).map (·.ty)
  rw [ty (d1.ol m1), ty (d.ol m)]
theorem gN (d : Hs base Wr h0 h D R) {b t o : Nat} {cs : List Value} {x : Option β} (m : (b, t, cs) ∈ D) (w : Wp x Q) : Wp (gate (neA (some ⟨b, o, none⟩) h.length) x) Q := W.gt (ne_A (Nat.ne_of_lt (d.lt m))) w
theorem iB {i n : Int} {a b : Option β} (h1 : 0 ≤ i) (h2 : i < n) (w : Wp a Q) : Wp (if 0 ≤ i ∧ i < n then a else b) Q := W.ifT ⟨h1, h2⟩ w
theorem rG (d : Hs base Wr h0 h D R) {α : Type} {b t o : Nat} {cs : List Value} {v : Value} {g : Value → Option α} {y : α} {f : α → Option β} (m : (b, t, cs) ∈ D) (e : cs[o]? = some v) (eg : g v = some y) (w : Wp (f y) Q) : Wp (((Am.cell h b o).bind g).bind f) Q := by
 rw [d.getI m e, Option.bind_some, eg]
 exact w
theorem bE {α δ : Type} {x : Option δ} {g : δ → Option α} {y : α} {f : α → Option β} (e : x.bind g = some y) (w : Wp (f y) Q) : Wp ((x.bind g).bind f) Q := by rw [e]; exact w
theorem bU {n : Nat} {v : Value} {l : List Value} {f : List Value → Option β} (e : getTup n v = some l) (w : Wp (f l) Q) : Wp ((getTup n v).bind f) Q := by rw [e]; exact w
theorem bo {a : Addr} {f : Addr → Option β} (w : Wp (f a) Q) : Wp ((some a).bind f) Q := w
theorem t4 {p : Nat → Prop} {g : Nat} {l : List Tm} {a : Option Addr} (hs : TsR h p (g + 1) l a) {i : Nat} (hi : i < l.length) {f : Int → Int → ByteArray → Option Addr × Nat → Option β} (w : ∀ k n s a2 l2, l[i] = .mk k n s l2 → TmR h p (g + 1) (.mk k n s l2) (termV k n s a2 l2.length) → TsR h p g l2 a2 → s.size ≤ maxLen → l2.length ≤ maxLen → Wp (f k n s (a2, l2.length)) Q) :
  Wp (a.bind fun ad => ((Am.cell h ad.block (ad.off + i * 4)).bind (getI .i64)).bind fun n1 => ((Am.cell h ad.block (ad.off + i * 4 + 1)).bind (getI .i64)).bind fun n2 => ((Am.cell h ad.block (ad.off + i * 4 + 1 + 1)).bind getStr).bind fun s3 => ((Am.cell h ad.block (ad.off + i * 4 + 1 + 1 + 1)).bind getS).bind fun l4 => f n1 n2 s3 l4) Q := by
 obtain ⟨ad, k, n, s, a2, m, rfl, g0, g1, g2, g3, hm⟩ := hs.getT hi
 obtain ⟨l2, e, rfl, h1, h2, h3⟩ := hm.opn
 refine W.bs rfl (W.bI g0 (W.bI g1 (W.bT g2 (W.bS g3 (w k n s a2 l2 e ?_ h1 h2 h3)))))
 rw [← e]
 exact hm
theorem a1 (d : Hs base Wr h0 h D R) {α : Type} {b t o : Nat} {cs : List Value} {v : Value} {g : Value → Option α} {y : α} {f : α → Option β} (w : Wp (f y) Q) (m : (b, t, cs) ∈ D := by with_unfolding_all (repeat first | exact List.Mem.head _ | apply List.Mem.tail)) (e : cs[o]? = some v := by with_unfolding_all exact rfl) (eg : g v = some y := by with_unfolding_all exact rfl) : Wp (((Am.cell h b o).bind g).bind f) Q := rG d m e eg w
theorem a2 {α δ : Type} {x : Option δ} {g : δ → Option α} {y : α} {f : α → Option β} (w : Wp (f y) Q) (e : x.bind g = some y := by with_unfolding_all exact rfl) : Wp ((x.bind g).bind f) Q := bE e w
theorem a3 {n : Nat} {v : Value} {l : List Value} {f : List Value → Option β} (w : Wp (f l) Q) (e : getTup n v = some l := by with_unfolding_all exact rfl) : Wp ((getTup n v).bind f) Q := bU e w
theorem a5 (d : Hs base Wr h0 h D R) {b t o : Nat} {cs new : List Value} {D' : Ds} {f : AH → Option β} (w : ∀ h1, Hs base Wr h0 h1 D' R → h1.length = h.length → KB (· = b) h h1 → Wp (f h1) Q) (u : Upd D (b, t, cs) (b, t, setAt cs o new) D' := by with_unfolding_all (repeat first | exact Upd.here | apply Upd.there)) (hi : Nat.ble (o + new.length) cs.length = true := by with_unfolding_all exact rfl) (hz : Nat.blt 0 new.length = true := by with_unfolding_all exact rfl) : Wp ((Am.wr base h b o new).bind f) Q := wD d u hi hz w
theorem a6 (d : Hs base Wr h0 h D R) {b t o n : Nat} {cs cs1 : List Value} {Wr1 : Fp} {h01 h1 : AH} {D1 : Ds} {R1 : List Rs} {x : Option β} (w : Wp x Q) (d1 : Hs base Wr1 h01 h1 D1 R1 := by assumption) (m : (b, t, cs) ∈ D := by with_unfolding_all (repeat first | exact List.Mem.head _ | apply List.Mem.tail)) (m1 : (b, t, cs1) ∈ D1 := by with_unfolding_all (repeat first | exact List.Mem.head _ | apply List.Mem.tail)) (e : (cs1.drop o).take n = (cs.drop o).take n := by with_unfolding_all exact rfl) (hl : Nat.ble (o + n) cs.length = true := by with_unfolding_all exact rfl) (hl1 : Nat.ble (o + n) cs1.length = true := by with_unfolding_all exact rfl) : Wp (gate (sameA h1 h (some ⟨b, o, none⟩) n) x) Q := gS d m d1 m1 e hl hl1 w
theorem a7 {b t o : Nat} {cs : List Value} {x : Option β} (w : Wp x Q) (d : Hs base Wr h0 h D R := by assumption) (m : (b, t, cs) ∈ D := by with_unfolding_all (repeat first | exact List.Mem.head _ | apply List.Mem.tail)) : Wp (gate (neA (some ⟨b, o, none⟩) h.length) x) Q := gN d m w
theorem a8 {i n : Int} {a b : Option β} (w : Wp a Q) (h1 : 0 ≤ i := by first | omega | (dsimp only; omega)) (h2 : i < n := by first | omega | (dsimp only; omega)) : Wp (if 0 ≤ i ∧ i < n then a else b) Q := iB h1 h2 w
theorem jb {L : Slots} (B : Bool) (d : Hs base Wr h0 h D R) {x : Option (Sum (Slots × AH) β)} {k : Slots × AH → Option β} (w : Wp x (Sum.elim (fun q => q.1.dropLast = L ∧ q.1.getLast? = some (some (.bool B)) ∧ KB NoB h q.2) Q)) (w2 : ∀ h1, Hs base Wr h0 h1 D R → h.length ≤ h1.length → Wp (k (L ++ [some (.bool B)], h1)) Q) : Wp (x.bind fun j => joinK j k) Q := by
 refine W.joinP _ w fun q hq => ?_
 obtain ⟨q1, q2⟩ := q
 obtain ⟨e1, e2, k2⟩ := hq
 simp only at e1 e2 k2
 have : q1 = L ++ [some (.bool B)] := by
  rw [← e1]
  rw [List.getLast?_eq_some_iff] at e2
  obtain ⟨ys, rfl⟩ := e2
  simp
 rw [this]
 exact w2 q2 (d.kN k2) k2.1
theorem lb {L : Slots} {B : Bool} {q1 : Slots} {h1 h2 : AH} (e1 : q1.dropLast = L) (e2 : q1.getLast? = some (some (.bool B))) (k : KB NoB h1 h2) : Wp (some (Sum.inl (q1, h2) : Sum (Slots × AH) β)) (Sum.elim (fun q => q.1.dropLast = L ∧ q.1.getLast? = some (some (.bool B)) ∧ KB NoB h1 q.2) Q) := W.inl ⟨e1, e2, k⟩
end W
end Go.Proofs.Ytjmkbglnjklbcaa.Am
set_option linter.unusedSimpArgs false
set_option linter.unusedVariables false
namespace Go.Proofs.Ytjmkbglnjklbcaa.Am
open Go Go.RowKit
theorem RowO.one {α : Type} {w base t b : Nat} {P : Fp → AH → α → List Value → Prop} {S : Fp} {h : AH} {x : α} {cs : List Value} (hx : P S h x cs) (hS : ¬ S b) (hc : cs.length = w) (o : Own base t h (at0 b) cs) : RowO base t w P (fun y => S y ∨ y = b) h [x] (at0 b) := by
 refine ⟨cs, S, o, by simp [hc], fun y hy => ?_, fun y hy => .inl hy, fun q y => q = 0 ∧ S y, fun q y hy => hy.2, fun q j y hq hy hy' => hq (hy.1.trans hy'.1.symm), fun q z hz => ?_⟩
 ·rw [blk_at0] at hy
  subst hy
  exact ⟨.inr rfl, hS⟩
 ·cases q with
  | zero =>
   simp at hz
   subst hz
   have ee : (fun y => (0 : Nat) = 0 ∧ S y) = S := by funext y; simp
   show P (fun y => (0 : Nat) = 0 ∧ S y) h x (chunk w 0 cs)
   rw [ee, show chunk w 0 cs = cs from by simp only [chunk, Nat.zero_mul, List.drop_zero]; exact List.take_of_length_le (by omega)]
   exact hx
  | succ q => simp at hz
theorem RowO.app1 {α : Type} {w : Nat} {P : Fp → AH → α → List Value → Prop} (kp : Kp P) {base t bytes : Nat} {S C : Fp} {h : AH} {l : List α} {a : Option Addr} (x : RowO base t w P S h l a) {y : α} {cs : List Value} (hy : P C h y cs) (hc : cs.length = w) (hw : 0 < w) (hlf : cs.all leaf = true) (hC : ∀ b, C b → ¬ S b) (hCb : ∀ b, C b → b < h.length) (hSb : ∀ b, S b → b < h.length) (hb : base ≤ h.length) (h1 : (l.length + 1) * bytes ≤ 140737488355328) (h2 : l.length + 1 ≤ 9223372036854775807) :
  ∃ a' h', Am.app base (h ++ [some ⟨cs, t⟩]) t w bytes a l.length (rawAt (h ++ [some ⟨cs, t⟩]) (some ⟨h.length, 0, none⟩) (1 * w)) 1 = some (.slice a' (l.length + 1) (l.length + 1), h') ∧ RowO base t w P (fun b => S b ∨ C b ∨ (h.length ≤ b ∧ b < h'.length)) h' (l ++ [y]) a' ∧ KB (blk a) h h' ∧ h.length + 1 ≤ h'.length := by
 obtain ⟨vs, T, x1, x2, x3, x4, x5⟩ := x
 obtain ⟨a', h', e, o, k, d, n⟩ := Am.app1 (bytes := bytes) x1 x2 hc hw hlf hb h1 h2
 refine ⟨a', h', e, ⟨vs ++ cs, fun b => T b ∨ C b, o, by simp [hc, x2, Nat.add_one_mul], fun b hb' => ?_, fun b hb' => hb'.elim (fun hb' => .inl (x4 b hb')) fun hb' => .inr (.inl hb'), ?_⟩, k, n⟩
 ·have e := d b hb'
  have lt := (o.lt hb').2
  subst e
  refine ⟨.inr (.inr ⟨by omega, lt⟩), fun hh => ?_⟩
  rcases hh with hh | hh
  ·have := hSb _ (x4 _ hh); omega
  ·have := hCb _ hh; omega
 ·have c := x5.snoc (vs' := vs ++ cs) (S' := fun b => T b ∨ C b) hy (fun b hb hb' => hC b hb (x4 b hb')) (fun b hb => .inl hb) (fun b hb => .inr hb) (fun q hq => chunk_app_other (by have := mul_le' (w := w) hq; omega)) (chunk_app_self hc x2)
  refine c.keep kp k fun b hb hk => ?_
  rcases hb with hb | hb
  ·exact (x3 b hk).2 hb
  ·exact hC b hb (x3 b hk).1
end Go.Proofs.Ytjmkbglnjklbcaa.Am
set_option linter.unusedSimpArgs false
set_option linter.unusedVariables false
namespace Go.Proofs.Ytjmkbglnjklbcaa.Am
open Go Go.RowKit
section
variable {α : Type} {w : Nat} {P : Fp → AH → α → List Value → Prop}
theorem chunk_app_right {w n i : Nat} {vs cs : List Value} (hv : vs.length = n * w) (hi : n ≤ i) : chunk w i (vs ++ cs) = chunk w (i - n) cs := by
 have h := Nat.mul_le_mul_right w hi
 rw [chunk, chunk, List.drop_append, List.drop_eq_nil_of_le (by omega), List.nil_append, hv, Nat.sub_mul]
theorem Chunks.app {S C : Fp} {h : AH} {l l2 : List α} {vs vs2 : List Value} (x : Chunks w P S h l vs) (y : Chunks w P C h l2 vs2) (hv : vs.length = l.length * w) (hd : ∀ b, S b → ¬ C b) : Chunks w P (fun b => S b ∨ C b) h (l ++ l2) (vs ++ vs2) := by
 obtain ⟨A, a1, a2, a3⟩ := x
 obtain ⟨B, b1, b2, b3⟩ := y
 refine ⟨fun i => if i < l.length then A i else B (i - l.length), fun i b hb => ?_, fun i j b hij hi hj => ?_, fun i z hz => ?_⟩
 ·simp only at hb
  split at hb
  ·exact .inl (a1 _ b hb)
  ·exact .inr (b1 _ b hb)
 ·simp only at hi hj
  split at hi
  ·split at hj
   ·exact a2 _ _ b hij hi hj
   ·exact hd b (a1 _ b hi) (b1 _ b hj)
  ·split at hj
   ·exact hd b (a1 _ b hj) (b1 _ b hi)
   ·exact b2 _ _ b (by omega) hi hj
 ·by_cases hi : i < l.length
  ·rw [List.getElem?_append_left hi] at hz
   have hle := mul_le' (w := w) hi
   show P (if i < l.length then A i else B (i - l.length)) h z (chunk w i (vs ++ vs2))
   rw [if_pos hi, chunk_app_other (by omega)]
   exact a3 i z hz
  ·rw [List.getElem?_append_right (by omega)] at hz
   show P (if i < l.length then A i else B (i - l.length)) h z (chunk w i (vs ++ vs2))
   rw [if_neg hi, chunk_app_right hv (by omega)]
   exact b3 _ z hz
theorem chunk_part {w i n q : Nat} {vs : List Value} (hq : q < n) : chunk w q ((vs.drop (i * w)).take (n * w)) = chunk w (i + q) vs := by
 have := mul_le' (w := w) hq
 rw [chunk, chunk, List.drop_take, List.drop_drop, List.take_take, Nat.add_mul]
 congr 1
 omega
theorem Chunks.part {S : Fp} {h : AH} {l : List α} {vs : List Value} (x : Chunks w P S h l vs) (i n : Nat) : Chunks w P S h ((l.drop i).take n) ((vs.drop (i * w)).take (n * w)) := by
 obtain ⟨A, a1, a2, a3⟩ := x
 refine ⟨fun q => A (i + q), fun q b hb => a1 _ b hb, fun q j b hq hb hb' => a2 _ _ b (by omega) hb hb', fun q z hz => ?_⟩
 have hq : q < n := by have := (List.getElem?_eq_some_iff.1 hz).1; simp at this; omega
 rw [List.getElem?_take_of_lt hq, List.getElem?_drop] at hz
 rw [chunk_part hq]
 exact a3 _ z hz
theorem RowO.appR (kp : Kp P) {base t bytes : Nat} {S C : Fp} {h : AH} {l l2 : List α} {a a2 : Option Addr} (x : RowO base t w P S h l a) {vs2 : List Value} (hr : rawAt h a2 (l2.length * w) = some vs2) (hv2 : vs2.length = l2.length * w) (y : Chunks w P C h l2 vs2) (hw : 0 < w) (hC : ∀ b, C b → ¬ S b) (hCb : ∀ b, C b → b < h.length) (hSb : ∀ b, S b → b < h.length) (hb : base ≤ h.length) (h1 : (l.length + l2.length) * bytes ≤ 140737488355328) (h2 : l.length + l2.length ≤ 9223372036854775807) :
  ∃ a' h', Am.app base h t w bytes a l.length (rawAt h a2 (l2.length * w)) l2.length = some (.slice a' (l.length + l2.length) (l.length + l2.length), h') ∧ RowO base t w P (fun b => S b ∨ C b ∨ (h.length ≤ b ∧ b < h'.length)) h' (l ++ l2) a' ∧ KB (blk a) h h' := by
 obtain ⟨vs, T, x1, x2, x3, x4, x5⟩ := x
 obtain ⟨a', h', e, o, k, d⟩ := Own.app x1 (bytes := bytes) (m := l2.length) x2 hw hr hb h1 h2 hv2
 have cc := x5.app y x2 (fun b hb hc => hC b hc (x4 b hb))
 have cc' := cc.keep kp k fun b hb hk => by
  rcases hb with hb | hb
  ·exact (x3 b hk).2 hb
  ·exact hC b hb (x3 b hk).1
 refine ⟨a', h', e, ⟨vs ++ vs2, fun b => T b ∨ C b, o, by simp [x2, hv2, Nat.add_mul], fun b hb' => ?_, fun b hb' => hb'.elim (fun h => .inl (x4 b h)) (fun h => .inr (.inl h)), cc'⟩, k⟩
 rcases d with ⟨hm, rfl, rfl⟩ | d
 ·refine ⟨.inl (x3 b hb').1, fun hh => ?_⟩
  rcases hh with hh | hh
  ·exact (x3 b hb').2 hh
  ·exact hC b hh (x3 b hb').1
 ·have e1 := d b hb'
  have lt := (o.lt hb').2
  subst e1
  refine ⟨.inr (.inr ⟨Nat.le_refl _, lt⟩), fun hh => ?_⟩
  rcases hh with hh | hh
  ·have := hSb _ (x4 _ hh); omega
  ·have := hCb _ hh; omega
theorem Chunks.leaf {T : Fp} {h : AH} {l : List α} {vs : List Value} (hlf : ∀ S h x cs, P S h x cs → cs.all leaf = true) (hw : 0 < w) (ch : Chunks w P T h l vs) (ev : vs.length = l.length * w) : vs.all leaf = true := by
 obtain ⟨C, _, _, c3⟩ := ch
 rw [List.all_eq_true]
 intro v hv
 obtain ⟨q, hq, rfl⟩ := List.mem_iff_getElem.1 hv
 have hi : q / w < l.length := Nat.div_lt_of_lt_mul (by rw [Nat.mul_comm]; omega)
 have hm := hlf _ _ _ _ (c3 (q / w) _ (List.getElem?_eq_getElem hi))
 rw [List.all_eq_true] at hm
 have hmod : q % w < w := Nat.mod_lt _ hw
 have hdm : q / w * w + q % w = q := by rw [Nat.mul_comm]; exact Nat.div_add_mod q w
 refine hm _ (List.mem_iff_getElem?.2 ⟨q % w, ?_⟩)
 rw [chunk, List.getElem?_take_of_lt hmod, List.getElem?_drop, hdm, List.getElem?_eq_getElem hq]
end
end Go.Proofs.Ytjmkbglnjklbcaa.Am
set_option linter.unusedSimpArgs false
set_option linter.unusedVariables false
namespace Go.Proofs.Ytjmkbglnjklbcaa.Am
open Go Go.RowKit
def wpart (D : Ds) (R : List Rs) : Fp := fun b => (∃ x ∈ D, x.1 = b) ∨ ∃ r ∈ R, r.mu = true ∧ r.S b
namespace Hs
variable {base : Nat} {W : Fp} {h0 h : AH} {D : Ds} {R : List Rs}
theorem tl {x : Nat × Nat × List Value} (d : Hs base W h0 h (x :: D) R) : Hs base W h0 h D R :=
 ⟨d.ge, d.kb, fun y hy => d.own y (.tail _ hy), (List.nodup_cons.1 d.nd).2, fun r hr => by
  obtain ⟨r1, r2, r3, r4, r5⟩ := d.res r hr
  exact ⟨r1, r2, r3, r4, fun y hy => r5 y (.tail _ hy)⟩, d.dj⟩
theorem takeR (d : Hs base W h0 h D R) (n : Nat) : Hs base W h0 h D (R.take n) :=
 ⟨d.ge, d.kb, d.own, d.nd, fun r hr => d.res r (List.mem_of_mem_take hr), d.dj.sublist (List.take_sublist _ _)⟩
theorem front {x : Nat × Nat × List Value} {D' : Ds} (d : Hs base W h0 h D R) (u : Del D x D') : Hs base W h0 h (x :: D') R := by
 obtain ⟨n1, n2⟩ := u.others d.nd
 refine ⟨d.ge, d.kb, fun y hy => ?_, ?_, fun r hr => ?_, d.dj⟩
 ·rcases List.mem_cons.1 hy with rfl | hy
  ·exact d.own _ u.mem
  ·exact d.own y (u.of y hy)
 ·rw [List.map_cons, List.nodup_cons]
  refine ⟨fun hm => ?_, n1⟩
  obtain ⟨y, hy, e⟩ := List.mem_map.1 hm
  exact n2 y hy e
 ·obtain ⟨r1, r2, r3, r4, r5⟩ := d.res r hr
  refine ⟨r1, r2, r3, r4, fun y hy => ?_⟩
  rcases List.mem_cons.1 hy with rfl | hy
  ·exact r5 _ u.mem
  ·exact r5 y (u.of y hy)
theorem pull {l l' : List Rs} {r : Rs} (u : Del l r l') (p : l.Pairwise Rs.dj) : (r :: l').Pairwise Rs.dj := by
 induction u with
 | here => exact p
 | @there x z l l' u ih =>
  rw [List.pairwise_cons] at p
  have := ih p.2
  rw [List.pairwise_cons] at this ⊢
  refine ⟨fun s hs => ?_, ?_⟩
  ·rcases List.mem_cons.1 hs with rfl | hs
   ·exact (p.1 _ u.mem).symm
   ·exact this.1 s hs
  ·rw [List.pairwise_cons]
   exact ⟨fun s hs => p.1 s (u.of s hs), this.2⟩
theorem frontR {r : Rs} {R' : List Rs} (d : Hs base W h0 h D R) (u : Del R r R') : Hs base W h0 h D (r :: R') := by
 refine ⟨d.ge, d.kb, d.own, d.nd, fun s hs => ?_, pull u d.dj⟩
 rcases List.mem_cons.1 hs with rfl | hs
 ·exact d.res _ u.mem
 ·exact d.res s (u.of s hs)
theorem part {D1 D2 : Ds} {R1 R2 : List Rs} (d : Hs base W h0 h (D1 ++ D2) (R1 ++ R2)) : Hs base (wpart D1 R1) h h D1 R1 := by
 refine ⟨d.ge, KB.refl _ _, fun x hx => ⟨(d.own x (List.mem_append_left _ hx)).1, .inl (.inl ⟨x, hx, rfl⟩)⟩, ?_, fun r hr => ?_, (List.pairwise_append.1 d.dj).1⟩
 ·have := d.nd
  rw [List.map_append] at this
  exact (List.nodup_append.1 this).1
 ·obtain ⟨r1, r2, r3, r4, r5⟩ := d.res r (List.mem_append_left _ hr)
  exact ⟨r1, r2, r3, fun m b hb => .inl (.inr ⟨r, hr, m, hb⟩), fun x hx => r5 x (List.mem_append_left _ hx)⟩
theorem app1 {α : Type} {t w bytes i j nb : Nat} {P : Fp → AH → α → List Value → Prop} {S C : Fp} {l : List α} {a : Option Addr} {y : α} {cs : List Value} (d : Hs base W h0 h D R) (kp : Kp P) (ei : R[i]? = some ⟨S, true, fun x => RowO base t w P S x l a⟩) (ej : R[j]? = some ⟨C, true, fun x => P C x y cs⟩) (hij : i ≠ j) (m : (nb, t, cs) ∈ D) (hc : cs.length = w) (hw : 0 < w) (hlf : cs.all leaf = true) (h1 : (l.length + 1) * bytes ≤ 140737488355328) (h2 : l.length + 1 ≤ 9223372036854775807) :
  ∃ a' h' S', Am.app base h t w bytes a l.length (rawAt h (at0 nb) (1 * w)) 1 = some (.slice a' (l.length + 1) (l.length + 1), h') ∧ Hs base W h0 h' D ((R.set j ⟨fun _ => False, true, fun _ => True⟩).set i ⟨S', true, fun x => RowO base t w P S' x (l ++ [y]) a'⟩) ∧ (∀ b, S' b → S b ∨ C b ∨ (h.length ≤ b ∧ b < h'.length)) ∧ h.length ≤ h'.length ∧ KB S h h' := by
 have row : RowO base t w P S h l a := d.rs ei
 have hy : P C h y cs := d.rs ej
 have o := d.ol m
 obtain ⟨vs, T, x1, x2, x3, x4, x5⟩ := row
 have hrow : RowO base t w P S h l a := ⟨vs, T, x1, x2, x3, x4, x5⟩
 have hraw : rawAt h (at0 nb) (([y] : List α).length * w) = some cs := by
  have := o.sl.raw hlf
  rw [hc] at this
  simpa using this
 have hd : ∀ b, C b → ¬ S b := by
  have hm1 := List.mem_of_getElem? ei
  have hm2 := List.mem_of_getElem? ej
  have hij' : ∀ {l : List Rs} {i j : Nat} {r s : Rs}, l.Pairwise Rs.dj → i < j → l[i]? = some r → l[j]? = some s → r.dj s := fun {l i j r s} p hlt hr hs => by
   obtain ⟨hi, rfl⟩ := List.getElem?_eq_some_iff.1 hr
   obtain ⟨hj, rfl⟩ := List.getElem?_eq_some_iff.1 hs
   exact List.pairwise_iff_getElem.1 p i j hi hj hlt
  rcases Nat.lt_or_gt_of_ne hij with hlt | hgt
  ·exact fun b h1 h2 => hij' d.dj hlt ei ej rfl b h2 h1
  ·exact fun b h1 h2 => hij' d.dj hgt ej ei rfl b h1 h2
 obtain ⟨a', h', e, r', k⟩ := hrow.appR kp (bytes := bytes) (a2 := at0 nb) (l2 := [y]) hraw (by simpa using hc) (⟨fun q b => q = 0 ∧ C b, fun q b hb => hb.2, fun q j b hq hb hb' => hq (hb.1.trans hb'.1.symm), fun q z hz => by
  cases q with
  | zero =>
   simp at hz
   subst hz
   have ee : (fun b => (0 : Nat) = 0 ∧ C b) = C := by funext b; simp
   show P (fun b => (0 : Nat) = 0 ∧ C b) h y (chunk w 0 cs)
   rw [ee, show chunk w 0 cs = cs from by simp only [chunk, Nat.zero_mul, List.drop_zero]; exact List.take_of_length_le (by omega)]
   exact hy
  | succ q => simp at hz⟩ : Chunks w P C h [y] cs) hw hd (d.rlt ej) (d.rlt ei) d.ge h1 h2
 refine ⟨a', h', _, e, ?_, fun b hb => hb, k.1, k.mono fun b _ hb => (x3 b hb).1⟩
 have ei' : (R.set j ⟨fun _ => False, true, fun _ => True⟩)[i]? = some ⟨S, true, fun x => RowO base t w P S x l a⟩ := by rw [List.getElem?_set_ne (by omega)]; exact ei
 exact d.joinO kp (Upd.at ej) (Upd.at ei') rfl rfl k r' (fun b hb => .inl (x3 b hb).1) fun b hb => by
  rcases hb with hb | hb | hb
  ·exact .inl hb
  ·exact .inr (.inl hb)
  ·exact .inr (.inr hb)
end Hs
section
variable {α : Type} {w : Nat} {P : Fp → AH → α → List Value → Prop}
end
end Go.Proofs.Ytjmkbglnjklbcaa.Am
set_option linter.unusedSimpArgs false
set_option linter.unusedVariables false
namespace Go.Proofs.Ytjmkbglnjklbcaa.Am
open Go Go.RowKit
theorem and255 (m : Int) : 0 ≤ Go.bits .and .i64 m (255 : Int) ∧ Go.bits .and .i64 m (255 : Int) ≤ 255 := by
 have h : ∀ x : BitVec 64, (x &&& BitVec.ofInt 64 (255 : Int)).toNat ≤ 255 := fun x => by
  rw [BitVec.toNat_and]
  exact Nat.le_trans Nat.and_le_right (by decide)
 have h1 := h (BitVec.ofInt 64 m)
 have e : Go.bits .and .i64 m (255 : Int) = IntKind.wrap .i64 ((BitVec.ofInt 64 m &&& BitVec.ofInt 64 (255 : Int)).toNat : Int) := rfl
 rw [e, w64i (by omega) (by omega)]
 omega
def CurR (base cb : Nat) (h : AH) : Prop := ∃ (a : Option Addr) (zs : List Int) (i hh : Int), Own base 181 h (at0 cb) [.slice a zs.length zs.length, .int .i64 i, .int .i64 hh] ∧ Sl h a (iv .u8 zs) ∧ (zs = [] ∨ ∀ b, blk a b → b < base) ∧ zs.length ≤ 9223372036854775806 ∧ 0 ≤ i
theorem CurR.keep {base cb : Nat} {U : Nat → Prop} {h h' : AH} (x : CurR base cb h) (k : KB U h h') (hU : ∀ b, U b → base ≤ b ∧ b ≠ cb) : CurR base cb h' := by
 obtain ⟨a, zs, i, hh, o, s, hz, hl, hi⟩ := x
 refine ⟨a, zs, i, hh, o.keep k fun b hb hu => by rw [blk_at0] at hb; exact (hU b hu).2 hb, ?_, hz, hl, hi⟩
 rcases hz with e | hz
 ·subst e; exact .inl rfl
 ·exact s.keep k fun b hb hu => by have := hz b hb; have := (hU b hu).1; omega
theorem CurR.keepN {base cb : Nat} {h h' : AH} (x : CurR base cb h) (k : KB NoB h h') : CurR base cb h' := x.keep k fun _ h => h.elim
theorem CurR.lt {base cb : Nat} {h : AH} (x : CurR base cb h) : base ≤ cb ∧ cb < h.length := by
 obtain ⟨a, zs, i, hh, o, _⟩ := x
 exact o.lt (blk_at0.2 rfl)
theorem l1Byte_run {base cb : Nat} {h : AH} (x : CurR base cb h) : ∃ z h', run (Et base) 193 [.pointer (at0 cb)] h = some (.int .i64 z, h') ∧ 0 ≤ z ∧ z ≤ 255 ∧ CurR base cb h' ∧ KB (· = cb) h h' ∧ h'.length = h.length := by
 have hlt := x.lt
 obtain ⟨a, zs, i, hh, o, s, hz, hl, hi⟩ := x
 obtain ⟨h4, e4, o4, k4, n4⟩ := o.wr0 (i := 2) (new := [.int .i64 (IntKind.wrap .i64 ((IntKind.wrap .i64 (hh * (6364136223846793005 : Int))) + (1442695040888963407 : Int)))]) (by simp) (by simp)
 generalize hg : IntKind.wrap .i64 ((IntKind.wrap .i64 (hh * (6364136223846793005 : Int))) + (1442695040888963407 : Int)) = hn at e4 o4
 have hset : setAt [.slice a zs.length zs.length, .int .i64 i, .int .i64 hh] 2 [.int .i64 hn] = [.slice a zs.length zs.length, .int .i64 i, Value.int .i64 hn] := rfl
 rw [hset] at o4
 have s4 : Sl h4 a (iv .u8 zs) := by
  rcases hz with e | hz
  ·subst e; exact .inl rfl
  ·exact s.keep k4 fun b hb hu => by have := hz b hb; omega
 by_cases c : i < (zs.length : Int)
 ·obtain ⟨ad, rfl, g⟩ := s4.int (i := i.toNat) (by omega)
  obtain ⟨h5, e5, o5, k5, n5⟩ := o4.wr0 (i := 1) (new := [.int .i64 (IntKind.wrap .i64 (i + 1))]) (by simp) (by simp)
  have hset : setAt [.slice (some ad) zs.length zs.length, .int .i64 i, .int .i64 hn] 1 [.int .i64 (IntKind.wrap .i64 (i + 1))] = [.slice (some ad) zs.length zs.length, .int .i64 (IntKind.wrap .i64 (i + 1)), Value.int .i64 hn] := rfl
  rw [hset] at o5
  have bz := and255 (IntKind.wrap .i64 ((Go.bits .and .i64 (Go.bits .xor .i64 (Int.fdiv hn (2 ^ min ((33 : Int)).toNat 64)) (Int.fdiv hn (2 ^ min ((47 : Int)).toNat 64))) (255 : Int)) + (IntKind.wrap .i64 zs[i.toNat])))
  refine ⟨_, h5, Am.r193 (bs rfl (bI (o.at0 (i := 2) rfl) (bs rfl ?_))), bz.1, bz.2, ⟨_, zs, IntKind.wrap .i64 (i + 1), hn, o5, ?_, hz, hl, by rw [w64i (by omega) (by omega)]; omega⟩, KB.trans k4 k5 (fun _ _ h => h) (fun _ _ h => h), by omega⟩
  ·rw [hg]
   refine bs e4 (bs rfl (bI (o4.at0 (i := 2) rfl) (bs rfl (bI (o4.at0 (i := 2) rfl) ?_))))
   refine bj (q := ([some (.int .i64 (Go.bits .and .i64 (IntKind.wrap .i64 ((Go.bits .and .i64 (Go.bits .xor .i64 (Int.fdiv hn (2 ^ min ((33 : Int)).toNat 64)) (Int.fdiv hn (2 ^ min ((47 : Int)).toNat 64))) (255 : Int)) + (IntKind.wrap .i64 zs[i.toNat]))) (255 : Int)))], h5)) ?_ (bI rfl rfl)
   refine bs rfl (bI (o4.at0 (i := 1) rfl) (bs rfl (bS (o4.at0 (i := 0) rfl) (ifT (decide_eq_true c) (bs rfl (bS (o4.at0 (i := 0) rfl) (bs rfl (bI (o4.at0 (i := 1) rfl) (ifT ⟨hi, c⟩ (bs rfl ?_))))))))))
   rw [Nat.mul_one]
   exact bs g (bs rfl (bI (o4.at0 (i := 1) rfl) (bs rfl (bs e5 rfl))))
  ·rcases hz with e | hz
   ·subst e; exact .inl rfl
   ·exact s4.keep k5 fun b hb hu => by have := hz b hb; omega
 ·have bz := and255 (Go.bits .xor .i64 (Int.fdiv hn (2 ^ min ((33 : Int)).toNat 64)) (Int.fdiv hn (2 ^ min ((47 : Int)).toNat 64)))
  refine ⟨_, h4, Am.r193 (bs rfl (bI (o.at0 (i := 2) rfl) (bs rfl ?_))), bz.1, bz.2, ⟨_, zs, i, hn, o4, s4, hz, hl, hi⟩, k4, n4⟩
  rw [hg]
  refine bs e4 (bs rfl (bI (o4.at0 (i := 2) rfl) (bs rfl (bI (o4.at0 (i := 2) rfl) ?_))))
  refine bj (q := ([some (.int .i64 (Go.bits .and .i64 (Go.bits .xor .i64 (Int.fdiv hn (2 ^ min ((33 : Int)).toNat 64)) (Int.fdiv hn (2 ^ min ((47 : Int)).toNat 64))) (255 : Int)))], h4)) ?_ (bI rfl rfl)
  exact bs rfl (bI (o4.at0 (i := 1) rfl) (bs rfl (bS (o4.at0 (i := 0) rfl) (ifF (by simpa using c) rfl))))
theorem kC {cb : Nat} {a b c : AH} (x : KB (· = cb) a b) (y : KB (· = cb) b c) : KB (· = cb) a c := KB.trans x y (fun _ _ h => h) (fun _ _ h => h)
theorem kCF {cb : Nat} {S : Nat → Prop} {a b c : AH} (x : KB (· = cb) a b) (y : KB S b c) (hS : ∀ i, S i → a.length ≤ i) : KB (· = cb) a c := KB.trans x y (fun _ _ h => h) (fun i hi hs => by have := hS i hs; omega)
theorem l1Below_run {base cb : Nat} {h : AH} {n : Int} (x : CurR base cb h) (hn : n ≤ 256) : ∃ z h', run (Et base) 158 [.pointer (at0 cb), .int .i64 n] h = some (.int .i64 z, h') ∧ 0 ≤ z ∧ (0 < n → z < n) ∧ z ≤ 255 ∧ CurR base cb h' ∧ KB (· = cb) h h' ∧ h'.length = h.length := by
 by_cases c : n ≤ 0
 ·exact ⟨0, h, Am.r158 (ifT (decide_eq_true c) rfl), by omega, fun h => by omega, by omega, x, KB.refl _ _, rfl⟩
 ·obtain ⟨z, h', e, z0, z1, x', k, l⟩ := l1Byte_run x
  have t0 := Int.tmod_nonneg n z0
  have t1 : Int.tmod z n < n := Int.tmod_lt_of_pos z (by omega)
  refine ⟨Int.tmod z n, h', Am.r158 (ifF (by simpa using c) (ifT (decide_eq_true hn) (bs e (bI rfl (ifF (by omega) rfl))))), t0, fun _ => t1, ?_, x', k, l⟩
  have t2 := Int.tmod_eq_emod_of_nonneg (b := n) z0
  have t3 : z % n ≤ z := by
   by_cases cc : z < n
   ·rw [Int.emod_eq_of_lt z0 cc]; omega
   ·omega
  omega
theorem l1Once_run {base cb : Nat} {h : AH} {n : Int} (x : CurR base cb h) (hn : n ≤ 256) : ∃ b h', run (Et base) 155 [.pointer (at0 cb), .int .i64 n] h = some (.bool b, h') ∧ CurR base cb h' ∧ KB (· = cb) h h' ∧ h'.length = h.length := by
 obtain ⟨z, h', e, _, _, _, x', k, l⟩ := l1Below_run (n := n) x hn
 exact ⟨_, h', Am.r155 (bs e (bI rfl rfl)), x', k, l⟩
theorem l1Int_run {base cb : Nat} {h : AH} {a : Option Addr} {zs : List Int} (x : CurR base cb h) (s : Sl h a (iv .i64 zs)) (ha : ∀ b, blk a b → b ≠ cb) (h0 : 0 < zs.length) (h1 : zs.length ≤ 256) : ∃ z h', run (Et base) 93 [.pointer (at0 cb), .slice a zs.length zs.length] h = some (.int .i64 z, h') ∧ z ∈ zs ∧ CurR base cb h' ∧ KB (· = cb) h h' ∧ h'.length = h.length := by
 obtain ⟨z, h', e, z0, z1, _, x', k, l⟩ := l1Below_run (n := (zs.length : Int)) x (by omega)
 have z2 := z1 (by omega)
 obtain ⟨ad, rfl, g⟩ := (s.keep k fun b hb hu => ha b hb hu).int (i := z.toNat) (by omega)
 have hz : z.toNat < zs.length := by omega
 refine ⟨zs[z.toNat], h', Am.r93 (bs e (bI rfl (ifT ⟨z0, z2⟩ (bs rfl ?_)))), List.getElem_mem hz, x', k, l⟩
 rw [Nat.mul_one]
 exact bs g rfl
theorem l1Str_run {base cb : Nat} {h : AH} {a : Option Addr} {ss : List ByteArray} (x : CurR base cb h) (s : Sl h a (ss.map Value.string)) (ha : ∀ b, blk a b → b ≠ cb) (h0 : 0 < ss.length) (h1 : ss.length ≤ 256) : ∃ z h', run (Et base) 190 [.pointer (at0 cb), .slice a ss.length ss.length] h = some (.string z, h') ∧ z ∈ ss ∧ CurR base cb h' ∧ KB (· = cb) h h' ∧ h'.length = h.length := by
 obtain ⟨z, h', e, z0, z1, _, x', k, l⟩ := l1Below_run (n := (ss.length : Int)) x (by omega)
 have z2 := z1 (by omega)
 obtain ⟨ad, rfl, g⟩ := (s.keep k fun b hb hu => ha b hb hu).cell (i := z.toNat) (v := .string (ss[z.toNat]'(by omega))) (by simp)
 have hz : z.toNat < ss.length := by omega
 refine ⟨ss[z.toNat], h', Am.r190 (bs e (bI rfl (ifT ⟨z0, z2⟩ (bs rfl ?_)))), List.getElem_mem hz, x', k, l⟩
 rw [Nat.mul_one]
 exact bT g rfl
theorem l1New_loop {base : Nat} {a : Option Addr} {zs : List Int} {h : AH} (hl : zs.length ≤ 9223372036854775806) (s : Sl h a (iv .u8 zs)) : ∀ (d i : Nat) (k : Int), i + d = zs.length → ∃ k', loopL (B91_0 base) [some (.slice a zs.length zs.length), some (.int .i64 k), some (.int .i64 (i : Int))] h = some (2, [some (.slice a zs.length zs.length), some (.int .i64 k')], h) := by
 intro d
 induction d with
 | zero =>
  intro i k hi
  refine ⟨k, loop_off (by decide) ?_⟩
  rw [B91_0_eq]
  refine bj (q := ([some (.slice a zs.length zs.length), some (.int .i64 k), some (.int .i64 (i : Int)), some (.bool false)], h)) (ifF (by simp; omega) rfl) ?_
  exact bS rfl (bI rfl (bI rfl (bB rfl (ifF (by decide) rfl))))
 | succ d ih =>
  intro i k hi
  by_cases c : (i : Int) < 4000
  ·obtain ⟨ad, rfl, g⟩ := s.int (i := i) (by omega)
   obtain ⟨k', e⟩ := ih (i + 1) (Go.bits .and .i64 (IntKind.wrap .i64 ((IntKind.wrap .i64 ((IntKind.wrap .i64 (k * (137 : Int))) + (IntKind.wrap .i64 zs[i]))) + (11 : Int))) (1073741823 : Int)) (by omega)
   refine ⟨k', loop_on ?_ e⟩
   rw [B91_0_eq]
   refine bj (q := ([some (.slice (some ad) zs.length zs.length), some (.int .i64 k), some (.int .i64 (i : Int)), some (.bool true)], h)) (ifT (decide_eq_true (by omega)) (by rw [decide_eq_true c])) ?_
   refine bS rfl (bI rfl (bI rfl (bB rfl (ifT rfl (ifT ⟨by omega, by simp; omega⟩ (bs rfl ?_))))))
   simp only [Int.toNat_natCast, Nat.mul_one]
   refine bs g ?_
   rw [w64i (n := (i : Int) + 1) (by omega) (by omega)]
   rfl
  ·refine ⟨k, loop_off (by decide) ?_⟩
   rw [B91_0_eq]
   refine bj (q := ([some (.slice a zs.length zs.length), some (.int .i64 k), some (.int .i64 (i : Int)), some (.bool false)], h)) (ifT (decide_eq_true (by omega)) (by rw [decide_eq_false c])) ?_
   exact bS rfl (bI rfl (bI rfl (bB rfl (ifF (by decide) rfl))))
theorem l1New_run {base : Nat} {h : AH} {a : Option Addr} {zs : List Int} (s : Sl h a (iv .u8 zs)) (hz : zs = [] ∨ ∀ b, blk a b → b < base) (hl : zs.length ≤ 9223372036854775806) (hb : base ≤ h.length) :
  ∃ h', run (Et base) 91 [.slice a zs.length zs.length] h = some (.pointer (at0 h.length), h') ∧ CurR base h.length h' ∧ KB NoB h h' ∧ h'.length = h.length + 1 := by
 obtain ⟨k', e⟩ := l1New_loop (base := base) hl s zs.length 0 (IntKind.wrap .i64 ((384384 : Int) + ((zs.length : Nat) : Int))) (by omega)
 rw [show ((0 : Nat) : Int) = 0 from rfl] at e
 obtain ⟨o1, k1, q1⟩ := box_own (base := base) (t := 181) (h := h) (cs := [.slice a zs.length zs.length, .int .i64 0, .int .i64 k']) hb rfl
 generalize hh1 : h ++ [some (⟨[.slice a zs.length zs.length, .int .i64 0, .int .i64 k'], 181⟩ : Blk)] = h1 at o1 k1 q1
 refine ⟨h1, Am.r91 (bs e (ifT rfl (bS rfl (bI rfl (lets fun y ey => ?_))))), ⟨a, zs, 0, k', o1, s.keepN k1, hz, hl, by omega⟩, k1, q1⟩
 rw [hh1] at ey
 subst ey
 rfl
end Go.Proofs.Ytjmkbglnjklbcaa.Am
set_option linter.unusedSimpArgs false
set_option linter.unusedVariables false
namespace Go.Proofs.Ytjmkbglnjklbcaa.Am
open Go Go.RowKit
end Go.Proofs.Ytjmkbglnjklbcaa.Am
set_option linter.unusedSimpArgs false
set_option linter.unusedVariables false
namespace Go.Proofs.Ytjmkbglnjklbcaa.Am
open Go Go.RowKit
theorem specActorOk_run {base f : Nat} {h : AH} {p : Nat → Prop} {l : List In} {c : Option Addr} {A : Ac} {cs : List Value} (hL : ∀ x ∈ l, x.s.size ≤ 9223372036854775807) (hl : l.length ≤ 9223372036854775807) (hc : Sl h c (insR l)) (hM : AcM A) (x : AcR h p f A cs) (hb : base ≤ h.length) :
  ∃ h', run (Et base) 42 [.slice c l.length l.length, .agg cs.toArray] h = some (.bool (acOk f l A), h') ∧ KB NoB h h' := by
 obtain ⟨a, b, g, rfl, hr, hx, hk, _⟩ := x
 obtain ⟨m1, m2, m3⟩ := hM
 obtain ⟨o1, k1, q1⟩ := box_own (base := base) (t := 65) (h := h) (cs := acV A.pid A.pc a A.regs.length b A.box.length g A.links.length) hb rfl
 generalize hh1 : h ++ [some (⟨acV A.pid A.pc a A.regs.length b A.box.length g A.links.length, 65⟩ : Blk)] = h1 at o1 k1 q1
 obtain ⟨h2, e2, k2⟩ := specCodeOk_run (base := base) hL hl (hc.keepN k1) (by omega)
 have n2 := k2.1
 have o2 := o1.keepN k2
 have k02 := kN k1 k2
 obtain ⟨h3, e3, k3⟩ := l9Terms_run (base := base) m1 (hr.keep k02 fun _ _ h => h) (by omega)
 have n3 := k3.1
 have o3 := o2.keepN k3
 have k03 := kN k02 k3
 obtain ⟨h4, e4, k4⟩ := l9Terms_run (base := base) m2 (hx.keep k03 fun _ _ h => h) (by omega)
 have o4 := o3.keepN k4
 have k04 := kN k03 k4
 have e5 := l9Links_run (base := base) (v := A.pid) m3 (hk.keepN k04)
 have e6 := l1In_run (base := base) (h := h2) (x := A.pid) (a := 1) (b := 99999)
 have e7 := l1In_run (base := base) (h := h2) (x := A.pc) (a := 0) (b := IntKind.wrap .i64 ((l.length : Int) - (1 : Int)))
 have hJ : ∃ J : Bool, (codeOk l && (inB A.pid 1 99999 && (inB A.pc 0 (IntKind.wrap .i64 ((l.length : Int) - (1 : Int))) && (((A.regs.length : Int) == (8 : Int)) && decide ((A.box.length : Int) ≤ (30 : Int)))))) = J := ⟨_, rfl⟩
 obtain ⟨J, hJ⟩ := hJ
 have ev : acOk f l A = (J && (tsB f A.regs && (tsB f A.box && lkOk A.links A.pid))) := by
  rw [← hJ]
  unfold acOk
  cases codeOk l <;> cases inB A.pid 1 99999 <;> cases inB A.pc 0 (IntKind.wrap .i64 ((l.length : Int) - (1 : Int))) <;> cases ((A.regs.length : Int) == (8 : Int)) <;> cases tsB f A.regs <;> cases decide ((A.box.length : Int) ≤ (30 : Int)) <;> rfl
 rw [ev]
 have start : ∀ {r : Value × AH}, _ = some r → run (Et base) 42 [.slice c l.length l.length, .agg (acV A.pid A.pc a A.regs.length b A.box.length g A.links.length).toArray] h = some r := fun {r} hr => Am.r42 (lets fun y ey => (by
  rw [ey, hh1]
  refine bj (q := ([some (.pointer (at0 h.length)), some (.bool (!J))], h2)) ?_ (bs rfl (bB rfl hr))
  refine bs e2 (bB rfl ?_)
  rw [← hJ]
  cases codeOk l with
  | false => exact ifT rfl rfl
  | true =>
   refine ifF (by decide) (bI (o2.at0 (i := 0) rfl) (bs e6 (bB rfl ?_)))
   cases inB A.pid 1 99999 with
   | false => exact ifT rfl rfl
   | true =>
    refine ifF (by decide) (bI (o2.at0 (i := 1) rfl) (bs e7 (bB rfl ?_)))
    cases inB A.pc 0 (IntKind.wrap .i64 ((l.length : Int) - (1 : Int))) with
    | false => exact ifT rfl rfl
    | true =>
     refine ifF (by decide) (bS (o2.at0 (i := 2) rfl) ?_)
     cases c4 : (A.regs.length : Int) == (8 : Int) with
     | false => exact ifT (by simp [bne, c4]) rfl
     | true =>
      refine ifF (by simp [bne, c4]) (bS (o2.at0 (i := 3) rfl) ?_)
      by_cases c6 : (A.box.length : Int) ≤ 30
      ·rw [decide_eq_true c6, decide_eq_false (by omega)]; rfl
      ·rw [decide_eq_false c6, decide_eq_true (by omega)]; rfl))
 cases J with
 | false => exact ⟨h2, start (ifT rfl rfl), k02⟩
 | true =>
  cases c5 : tsB f A.regs with
  | false => rw [c5] at e3; exact ⟨h3, start (ifF (by decide) (bS (o2.at0 (i := 2) rfl) (bs e3 (bB rfl (ifF (by decide) rfl))))), k03⟩
  | true =>
   rw [c5] at e3
   cases c7 : tsB f A.box with
   | false => rw [c7] at e4; exact ⟨h4, start (ifF (by decide) (bS (o2.at0 (i := 2) rfl) (bs e3 (bB rfl (ifT rfl (bS (o3.at0 (i := 3) rfl) (bs e4 (bB rfl (ifF (by decide) rfl))))))))), k04⟩
   | true => rw [c7] at e4; exact ⟨h4, start (ifF (by decide) (bS (o2.at0 (i := 2) rfl) (bs e3 (bB rfl (ifT rfl (bS (o3.at0 (i := 3) rfl) (bs e4 (bB rfl (ifT rfl (bS (o4.at0 (i := 4) rfl) (bI (o4.at0 (i := 0) rfl) (bs e5 (bB rfl rfl))))))))))))), k04⟩
theorem AcB.le {f : Nat} {A : Ac} (x : AcB f A) : A.Le ∧ AcM A := by
 obtain ⟨h1, h2, h3, _⟩ := x
 exact ⟨⟨by simp only [maxLen]; omega, by simp only [maxLen]; omega, by omega⟩, by omega, by omega, by omega⟩
end Go.Proofs.Ytjmkbglnjklbcaa.Am
set_option linter.unusedSimpArgs false
set_option linter.unusedVariables false
namespace Go.Proofs.Ytjmkbglnjklbcaa.Am
open Go Go.RowKit
def AsR (h : AH) (p : Nat → Prop) (f : Nat) (l : List Ac) (a : Option Addr) : Prop :=
 ∃ vs, Sl h a vs ∧ (vs = [] ∨ ∀ b, blk a b → p b) ∧ vs.length = l.length * 5 ∧ ∀ i x, l[i]? = some x → AcR h p f x (chunk 5 i vs)
theorem AsR.keep {h h' : AH} {p S : Nat → Prop} (k : KB S h h') (hp : ∀ b, p b → ¬ S b) {f : Nat} {l : List Ac} {a : Option Addr} (x : AsR h p f l a) : AsR h' p f l a := by
 obtain ⟨vs, h4, h5, h6, h7⟩ := x
 refine ⟨vs, ?_, h5, h6, fun i t hi => (h7 i t hi).keep k hp⟩
 rcases h5 with e | h5
 ·exact .inl e
 ·exact h4.keep k fun b hb hs => hp b (h5 b hb) hs
theorem AsR.keepN {h h' : AH} {p : Nat → Prop} (k : KB NoB h h') {f : Nat} {l : List Ac} {a : Option Addr} (x : AsR h p f l a) : AsR h' p f l a := x.keep k fun _ _ h => h
theorem AcR.mono {h : AH} {p q : Nat → Prop} (hpq : ∀ b, p b → q b) {f : Nat} {A : Ac} {cs : List Value} (x : AcR h p f A cs) : AcR h q f A cs := by
 obtain ⟨a, b, g, e, h1, h2, h3, h4⟩ := x
 exact ⟨a, b, g, e, h1.mono hpq, h2.mono hpq, h3, h4.imp id fun k y hy => hpq y (k y hy)⟩
theorem AsR.get {h : AH} {p : Nat → Prop} {f : Nat} {l : List Ac} {al : Option Addr} (x : AsR h p f l al) {i : Nat} (hi : i < l.length) :
  ∃ ad a b g, al = some ad ∧ ad.block < h.length ∧ Am.cell h ad.block (ad.off + i * 5) = some (.int .i64 l[i].pid) ∧ Am.cell h ad.block (ad.off + i * 5 + 1) = some (.int .i64 l[i].pc) ∧ Am.cell h ad.block (ad.off + i * 5 + 1 + 1) = some (.slice a l[i].regs.length l[i].regs.length) ∧
   Am.cell h ad.block (ad.off + i * 5 + 1 + 1 + 1) = some (.slice b l[i].box.length l[i].box.length) ∧ Am.cell h ad.block (ad.off + i * 5 + 1 + 1 + 1 + 1) = some (.slice g l[i].links.length l[i].links.length) ∧
   AcR h p f l[i] (acV l[i].pid l[i].pc a l[i].regs.length b l[i].box.length g l[i].links.length) ∧ Sl h g (iv .i64 l[i].links) := by
 obtain ⟨vs, h4, h5, h6, h7⟩ := x
 have hlt : i * 5 + 4 < vs.length := by omega
 have hm := h7 i l[i] (List.getElem?_eq_getElem hi)
 obtain ⟨a, b, g, ecs, q1, q2, q3, q4⟩ := hm
 have each : ∀ (j : Nat) (v : Value), (acV l[i].pid l[i].pc a l[i].regs.length b l[i].box.length g l[i].links.length)[j]? = some v → vs[i * 5 + j]? = some v := by
  intro j v hv
  have hj : j < 5 := by have := (List.getElem?_eq_some_iff.1 hv).1; simpa using this
  rw [← ecs] at hv
  unfold chunk at hv
  rw [List.getElem?_take_of_lt hj, List.getElem?_drop] at hv
  exact hv
 rcases h4 with e | ⟨ad, kk, e1, e2, e3, e4⟩
 ·subst e; simp at hlt
 ·have c : ∀ (j : Nat) (v : Value), (acV l[i].pid l[i].pc a l[i].regs.length b l[i].box.length g l[i].links.length)[j]? = some v → Am.cell h ad.block (ad.off + i * 5 + j) = some v := by
   intro j v hv
   have := e4 _ _ (each j v hv)
   rw [Nat.add_assoc]
   simp [Am.cell, e2, this]
  exact ⟨ad, a, b, g, e1, hget_lt e2, c 0 _ rfl, c 1 _ rfl, c 2 _ rfl, c 3 _ rfl, c 4 _ rfl, ⟨a, b, g, rfl, q1, q2, q3, q4⟩, q3⟩
end Go.Proofs.Ytjmkbglnjklbcaa.Am
set_option linter.unusedSimpArgs false
set_option linter.unusedVariables false
namespace Go.Proofs.Ytjmkbglnjklbcaa.Am
open Go Go.RowKit
def CopD (base f F : Nat) : Prop := ∀ (h : AH) (p : Nat → Prop) (t : Tm) (cs : List Value), TmR h p f t cs → TmB f t → base ≤ h.length → (∀ b, p b → b < h.length) →
 ∃ cs' h', run (Et base) F [.agg cs.toArray] h = some (.agg cs'.toArray, h') ∧ TmD f (iS h.length h'.length) h' t cs' ∧ KB NoB h h'
def CopG (base f F : Nat) : Prop := ∀ (h : AH) (p : Nat → Prop) (t : Tm) (cs : List Value), TmR h p f t cs → TmB f t → base ≤ h.length → (∀ b, p b → b < h.length) →
 ∃ cs' h', run (Et base) F [.agg cs.toArray] h = some (.agg cs'.toArray, h') ∧ TmG base f (iS h.length h'.length) h' t cs' ∧ KB NoB h h'
theorem TmD.form {f : Nat} {S : Fp} {h : AH} {t : Tm} {cs : List Value} (x : TmD f S h t cs) : ∃ k n s a m, cs = termV k n s a m := by
 cases f with
 | zero => exact x.elim
 | succ f => obtain ⟨k, n, s, l⟩ := t; obtain ⟨_, _, a, e, _⟩ := x; exact ⟨k, n, s, a, _, e⟩
theorem copyTerms_loop {base f : Nat} (ih : CopG base f 103) {p : Nat → Prop} {l : List Tm} {a : Option Addr} {lo : Nat} (hl : l.length ≤ 1048576) (hB : ∀ t ∈ l, TmB f t) (hp : ∀ b, p b → b < lo) (hlo : base ≤ lo) : ∀ (d i : Nat) (h : AH) (ao : Option Addr) (vs : List Value) (T : Fp), i + d = l.length → TsR h p f l a → lo ≤ h.length → Own base 39 h ao vs → vs.length = i * 4 → Chunks 4 (TmG base f) T h (l.take i) vs → (∀ b, T b → lo ≤ b ∧ b < h.length) → (∀ b, blk ao b → ¬ T b ∧ lo ≤ b) →
  ∃ h' ao' vs' T', loopL (B160_0 base) [some (.slice ao i i), some (.slice a l.length l.length), some (.int .i64 (l.length : Int)), some (.int .i64 (i : Int))] h = some (2, [some (.slice ao' l.length l.length)], h') ∧ Own base 39 h' ao' vs' ∧ vs'.length = l.length * 4 ∧
   Chunks 4 (TmG base f) T' h' l vs' ∧ (∀ b, T' b → lo ≤ b ∧ b < h'.length) ∧ (∀ b, blk ao' b → ¬ T' b ∧ lo ≤ b) ∧ KB (fun b => lo ≤ b) h h' := by
 intro d
 induction d with
 | zero =>
  intro i h ao vs T hi hs hlh ow hv hc hT ha
  rw [List.take_of_length_le (by omega)] at hc
  have hi' : i = l.length := by omega
  subst hi'
  refine ⟨h, ao, vs, T, ?_, ow, hv, hc, hT, ha, KB.refl _ _⟩
  refine loop_off (by decide) ?_
  rw [B160_0_eq]
  exact ifF (by simp) rfl
 | succ d ihd =>
  intro i h ao vs T hi hs hlh ow hv hc hT ha
  have hlt : i < l.length := by omega
  obtain ⟨ad, c0, c1, c2, c3, rfl, g0, g1, g2, g3, hm⟩ := hs.get hlt
  have kp1 : KB NoB h (h ++ [some ⟨[c0, c1, c2, c3], 39⟩]) := KB.push _ _ _
  have hm' := hm
  cases f with
  | zero => exact hm'.elim
  | succ f =>
   generalize ht : l[i] = tt at hm'
   obtain ⟨k, n, s, ll⟩ := tt
   obtain ⟨a2, ecs, _, _, _⟩ := hm'.parts
   injection ecs with q0 ecs
   injection ecs with q1 ecs
   injection ecs with q2 ecs
   injection ecs with q3 _
   subst q0; subst q1; subst q2; subst q3
   obtain ⟨o1, k1, q1⟩ := box_own (base := base) (t := 39) (h := h) (cs := termV k n s a2 ll.length) (by omega) rfl
   generalize hh1 : h ++ [some (⟨termV k n s a2 ll.length, 39⟩ : Blk)] = h1 at o1 k1 q1
   obtain ⟨cs', h2, e2, m2, k2⟩ := ih h1 p l[i] _ (TmR.keep k1 (fun _ _ h => h) _ _ _ hm) (hB _ (List.getElem_mem hlt)) (by omega) (fun b hb => by have := hp b hb; omega)
   have n2 := k2.1
   have k02 : KB NoB h h2 := kN k1 k2
   obtain ⟨k', n', s', a', m', rfl⟩ := m2.form
   obtain ⟨a3, h3, e3, o3, k3, b3, n3⟩ := Am.app1 (bytes := 56) (ow.keepN k02) (n := i) (sz := 4) (cs := termV k' n' s' a' m') hv rfl (by decide) rfl (by omega) (by omega) (by omega)
   have hao : ∀ b, blk ao b → b < h.length := fun b hb => (ow.lt hb).2
   have ch := ((hc.keep (TmG.kp _ _) k02 fun _ _ h => h).snoc (vs' := vs ++ termV k' n' s' a' m') (S' := fun b => T b ∨ iS h1.length h2.length b) m2 (fun b hb hb' => by have := hT b hb'; omega) (fun b hb => .inl hb) (fun b hb => .inr hb) (fun q hq => chunk_app_other (by simp at hq; have := mul_le' (w := 4) (show q < i from by omega); omega)) (by
    rw [List.length_take, Nat.min_eq_left (by omega)]
    exact chunk_app_self rfl hv)).keep (TmG.kp _ _) k3 (fun b hb hk => by
     rcases hb with hb | hb
     ·exact (ha b hk).1 hb
     ·have := hao b hk; omega)
   rw [← take_snoc hlt] at ch
   obtain ⟨h4, a4, vs4, T4, y1, y2, y3, y4, y5, y6, y7⟩ := ihd (i + 1) h3 a3 (vs ++ termV k' n' s' a' m') (fun b => T b ∨ iS h1.length h2.length b) (by omega) (hs.keep (kNB k02 k3) fun b h1 h2 => by have := hp b h1; have := (ha b h2).2; omega) (by omega) o3 (by simp; omega) ch (fun b hb => by
    rcases hb with hb | hb
    ·have := hT b hb; omega
    ·constructor <;> omega) (fun b hb => by
    have := b3 b hb
    subst this
    refine ⟨fun hb => ?_, by omega⟩
    rcases hb with hb | hb
    ·have := hT _ hb; omega
    ·omega)
   refine ⟨h4, a4, vs4, T4, ?_, y2, y3, y4, y5, y6, KB.trans (kNB k02 k3) y7 (fun b _ hb => (ha b hb).2) (fun _ _ h => h)⟩
   refine loop_on ?_ y1
   rw [B160_0_eq]
   refine ifT (decide_eq_true (by omega)) (ifT ⟨by omega, by omega⟩ (bs rfl ?_))
   simp only [Int.toNat_natCast]
   refine bI g0 (bI g1 (bT g2 (bS g3 (nw (by omega) rfl fun y ey => ?_))))
   rw [hh1] at ey
   subst ey
   refine q4 o1 (bs e2 (bs (v := termV k' n' s' a' m') rfl (bI rfl (bI rfl (bT rfl (bS rfl (lets fun y2 ey2 => ?_)))))))
   subst ey2
   refine bs e3 (bS rfl ?_)
   rw [w64i (n := (i : Int) + 1) (by omega) (by omega)]
   rfl
theorem copyTerms_run {base f : Nat} (ih : CopG base f 103) {h : AH} {p : Nat → Prop} {l : List Tm} {a : Option Addr} (hl : l.length ≤ 1048576) (hB : ∀ t ∈ l, TmB f t) (hs : TsR h p f l a) (hb : base ≤ h.length) (hp : ∀ b, p b → b < h.length) :
  ∃ a' h', run (Et base) 160 [.slice a l.length l.length] h = some (.slice a' l.length l.length, h') ∧ RowO base 39 4 (TmG base f) (iS h.length h'.length) h' l a' ∧ KB NoB h h' := by
 obtain ⟨h', ao, vs, T, e, ow, hv, hc, hT, ha, k⟩ := copyTerms_loop (base := base) ih hl hB hp hb l.length 0 h none [] (fun _ => False) (by omega) hs (by omega) (.inl ⟨rfl, rfl⟩) (by simp) Chunks.nil (fun _ h => h.elim) (fun b hb => by obtain ⟨_, e, _⟩ := hb; cases e)
 rw [show ((0 : Nat) : Int) = 0 from rfl] at e
 refine ⟨ao, h', Am.r160 (bs e (ifT rfl (bS rfl rfl))), ⟨vs, T, ow, hv, fun b hb' => ⟨⟨(ha b hb').2, (ow.lt hb').2⟩, (ha b hb').1⟩, fun b hb' => hT b hb', hc⟩, k.mono fun i hi h => by omega⟩
theorem copyTermG_run {base : Nat} : ∀ f, CopG base f 103
 | 0 => fun h p t cs x => x.elim
 | f + 1 => fun h p t cs x hB hb hp => by
  obtain ⟨k, n, s, l⟩ := t
  obtain ⟨a, rfl, hts, hs, hl⟩ := x.parts
  obtain ⟨b1, b2, b3⟩ := hB
  obtain ⟨o1, k1, q1⟩ := box_own (base := base) (t := 39) (h := h) (cs := termV k n s a l.length) hb rfl
  generalize hh1 : h ++ [some (⟨termV k n s a l.length, 39⟩ : Blk)] = h1 at o1 k1 q1
  obtain ⟨o2, k2, q2⟩ := box_own (base := base) (t := 39) (h := h1) (cs := termV 0 0 ⟨#[]⟩ none 0) (by omega) rfl
  generalize hh2 : h1 ++ [some (⟨termV 0 0 ⟨#[]⟩ none 0, 39⟩ : Blk)] = h2 at o2 k2 q2
  have k02 : KB NoB h h2 := kN k1 k2
  obtain ⟨a', h3, e3, t3, k3⟩ := copyTerms_run (base := base) (copyTermG_run f) b2 b3 (hts.keep k02 fun _ _ h => h) (by omega) (fun b hb => by have := hp b hb; omega)
  have n3 := k3.1
  obtain ⟨h4, e4, o4, k4, l4⟩ := ((o1.keepN k2).keepN k3).wr0 (i := 3) (new := [.slice a' l.length l.length]) (by simp) (by simp)
  have hset : setAt (termV k n s a l.length) 3 [.slice a' l.length l.length] = termV k n s a' l.length := rfl
  rw [hset] at o4
  have z4 := (o2.keepN k3).keepB k4 fun i hi => by rw [blk_at0] at hi; omega
  obtain ⟨h5, e5, o5, k5, l5⟩ := z4.wr0 (i := 0) (new := termV k n s a' l.length) (by simp) (by simp)
  have hz : setAt (termV 0 0 ⟨#[]⟩ none 0) 0 (termV k n s a' l.length) = termV k n s a' l.length := rfl
  rw [hz] at o5
  have t5 := (t3.keep (TmG.kp _ _) k4 fun b h1 h2 => by omega).keep (TmG.kp _ _) k5 fun b h1 h2 => by omega
  refine ⟨termV k n s a' l.length, h5, Am.r103 (lets fun y1 ey => ?_), ⟨hs, hl, a', rfl, t5.mono fun b hb' => by constructor <;> omega⟩, kFresh (kFresh (kN k02 k3) k4 fun i hi => by omega) k5 fun i hi => by omega⟩
  rw [hh1] at ey
  subst ey
  refine lets fun y2 ey => ?_
  rw [hh2] at ey
  subst ey
  refine bS ((o1.keepN k2).at0 (i := 3) rfl) (bs e3 (bS rfl (bs e4 (q4 o4 (bs e5 (q4 o5 rfl))))))
theorem CopG.d {base f F : Nat} (x : CopG base f F) : CopD base f F := fun h p t cs y hB hb hp => by
 obtain ⟨cs', h', e, m, k⟩ := x h p t cs y hB hb hp
 exact ⟨cs', h', e, m.d, k⟩
end Go.Proofs.Ytjmkbglnjklbcaa.Am
set_option linter.unusedSimpArgs false
set_option linter.unusedVariables false
namespace Go.Proofs.Ytjmkbglnjklbcaa.Am
open Go Go.RowKit
theorem l1Copy_loop {base f : Nat} (ih : CopG base f 221) {p : Nat → Prop} {l : List Tm} {a : Option Addr} {b0 b1 b2 : Nat} {k n : Int} {s : ByteArray} (hl : l.length ≤ 1048576) (hB : ∀ t ∈ l, TmB f t) (hp : ∀ b, p b → b < b2) (h02 : b0 < b2) (hb2 : base ≤ b2) : ∀ (d i : Nat) (h : AH) (ao : Option Addr) (vs : List Value) (T : Fp), i + d = l.length → TsR h p f l a → b2 < h.length → Own base 39 h (at0 b0) (termV k n s a l.length) → Own base 39 h (at0 b2) (termV k n s ao i) → Own base 39 h ao vs → vs.length = i * 4 → Chunks 4 (TmG base f) T h (l.take i) vs → (∀ b, T b → b2 < b ∧ b < h.length) → (∀ b, blk ao b → ¬ T b ∧ b2 < b) →
  ∃ h' ao' vs' T', loopL (B221_0 base) [some (.pointer (at0 b0)), some (.pointer (at0 b1)), some (.pointer (at0 b2)), some (.int .i64 (i : Int))] h = some (2, [some (.pointer (at0 b1)), some (.pointer (at0 b2))], h') ∧ Own base 39 h' (at0 b2) (termV k n s ao' l.length) ∧ Own base 39 h' ao' vs' ∧ vs'.length = l.length * 4 ∧
   Chunks 4 (TmG base f) T' h' l vs' ∧ (∀ b, T' b → b2 < b ∧ b < h'.length) ∧ (∀ b, blk ao' b → ¬ T' b ∧ b2 < b) ∧ KB (fun b => b2 ≤ b) h h' := by
 intro d
 induction d with
 | zero =>
  intro i h ao vs T hi hs hlh ot oo ow hv hc hT ha
  rw [List.take_of_length_le (by omega)] at hc
  have hi' : i = l.length := by omega
  subst hi'
  refine ⟨h, ao, vs, T, ?_, oo, ow, hv, hc, hT, ha, KB.refl _ _⟩
  refine loop_off (by decide) ?_
  rw [B221_0_eq]
  exact bS (ot.at0 (i := 3) rfl) (ifF (by simp) rfl)
 | succ d ihd =>
  intro i h ao vs T hi hs hlh ot oo ow hv hc hT ha
  have hlt : i < l.length := by omega
  obtain ⟨ad, c0, c1, c2, c3, rfl, g0, g1, g2, g3, hm⟩ := hs.get hlt
  have hm' := hm
  cases f with
  | zero => exact hm'.elim
  | succ f =>
   generalize ht : l[i] = tt at hm'
   obtain ⟨k1, n1, s1, ll⟩ := tt
   obtain ⟨a2, ecs, _, _, _⟩ := hm'.parts
   injection ecs with q0 ecs
   injection ecs with q1 ecs
   injection ecs with q2 ecs
   injection ecs with q3 _
   subst q0; subst q1; subst q2; subst q3
   obtain ⟨cs', h2, e2, m2, k2⟩ := ih h p l[i] _ hm (hB _ (List.getElem_mem hlt)) (by omega) (fun b hb => by have := hp b hb; omega)
   have nn2 := k2.1
   obtain ⟨k', n', s', a', m', rfl⟩ := m2.form
   obtain ⟨a3, h3, e3, o3, k3, b3, n3⟩ := Am.app1 (bytes := 56) (ow.keepN k2) (n := i) (sz := 4) (cs := termV k' n' s' a' m') hv rfl (by decide) rfl (by omega) (by omega) (by omega)
   have hao : ∀ b, blk ao b → b < h.length := fun b hb => (ow.lt hb).2
   have oo3 := (oo.keepN k2).keep k3 fun b hb hk => by have := (ha b hk).2; rw [blk_at0] at hb; omega
   obtain ⟨h4, w4, oo4, k4, l4⟩ := oo3.wr0 (i := 3) (new := [.slice a3 (i + 1) (i + 1)]) (by simp) (by simp)
   have hset : setAt (termV k n s ao i) 3 [.slice a3 (i + 1) (i + 1)] = termV k n s a3 (i + 1) := rfl
   rw [hset] at oo4
   have k03 : KB (blk ao) h h3 := kNB k2 k3
   have k04 : KB (fun b => blk ao b ∨ b = b2) h h4 := KB.trans k03 k4 (fun _ _ h => .inl h) (fun _ _ h => .inr h)
   have ch := (((hc.keep (TmG.kp _ _) k2 fun _ _ h => h).snoc (vs' := vs ++ termV k' n' s' a' m') (S' := fun b => T b ∨ iS h.length h2.length b) m2 (fun b hb hb' => by have := hT b hb'; omega) (fun b hb => .inl hb) (fun b hb => .inr hb) (fun q hq => chunk_app_other (by simp at hq; have := mul_le' (w := 4) (show q < i from by omega); omega)) (by
    rw [List.length_take, Nat.min_eq_left (by omega)]
    exact chunk_app_self rfl hv)).keep (TmG.kp _ _) k3 (fun b hb hk => by
     rcases hb with hb | hb
     ·exact (ha b hk).1 hb
     ·have := hao b hk; omega)).keep (TmG.kp _ _) k4 (fun b hb hk => by
     rcases hb with hb | hb
     ·have := hT b hb; omega
     ·omega)
   rw [← take_snoc hlt] at ch
   have hT' : ∀ b, (T b ∨ iS h.length h2.length b) → b2 < b ∧ b < h4.length := fun b hb => by
    rcases hb with hb | hb
    ·have := hT b hb; omega
    ·omega
   have o4 := o3.keepB k4 fun b hb => by have := b3 b hb; omega
   obtain ⟨h5, a5, vs5, T5, y1, y1', y2, y3, y4, y5, y6, y7⟩ := ihd (i + 1) h4 a3 (vs ++ termV k' n' s' a' m') (fun b => T b ∨ iS h.length h2.length b) (by omega) (hs.keep k04 fun b h1 h2 => by
    have := hp b h1
    rcases h2 with h2 | h2
    ·have := (ha b h2).2; omega
    ·omega) (by omega) (ot.keep k04 fun b hb h2 => by
    rw [blk_at0] at hb
    rcases h2 with h2 | h2
    ·have := (ha b h2).2; omega
    ·omega) oo4 o4 (by simp; omega) ch hT' (fun b hb => by
    have := b3 b hb
    subst this
    refine ⟨fun hb => ?_, by omega⟩
    rcases hb with hb | hb
    ·have := hT _ hb; omega
    ·omega)
   refine ⟨h5, a5, vs5, T5, ?_, y1', y2, y3, y4, y5, y6, KB.trans k04 y7 (fun b _ hb => by
    rcases hb with hb | hb
    ·have := (ha b hb).2; omega
    ·omega) (fun _ _ h => h)⟩
   refine loop_on ?_ y1
   rw [B221_0_eq]
   refine bS (ot.at0 (i := 3) rfl) (ifT (decide_eq_true (by simp; omega)) (bS (oo.at0 (i := 3) rfl) (bS (ot.at0 (i := 3) rfl) (ifT ⟨by omega, by simp; omega⟩ (bs rfl ?_)))))
   simp only [Int.toNat_natCast]
   refine bI g0 (bI g1 (bT g2 (bS g3 (bs e2 ?_))))
   refine bs (v := termV k' n' s' a' m') rfl (bI rfl (bI rfl (bT rfl (bS rfl ?_))))
   try dsimp only
   rw [gate_pos (by
    intro x hx
    injection hx with hx
    subst hx
    have e := k2.2 b2 hlh (fun h => h)
    exact ⟨fun j _ => by unfold Am.cell; rw [e], by rw [e]⟩)]
   rw [gate_pos (by
    intro x hx
    injection hx with hx
    subst hx
    show b2 ≠ h2.length
    omega)]
   refine lets fun y2 ey2 => ?_
   subst ey2
   refine bs e3 (bS rfl (bs w4 ?_))
   rw [w64i (n := (i : Int) + 1) (by omega) (by omega)]
   rfl
theorem l1CopyG_run {base : Nat} : ∀ f, CopG base f 221
 | 0 => fun h p t cs x => x.elim
 | f + 1 => fun h p t cs x hB hb hp => by
  obtain ⟨k, n, s, l⟩ := t
  obtain ⟨a, rfl, hts, hs, hl⟩ := x.parts
  obtain ⟨b1, b2, b3⟩ := hB
  obtain ⟨o1, k1, q1⟩ := box_own (base := base) (t := 39) (h := h) (cs := termV k n s a l.length) hb rfl
  generalize hh1 : h ++ [some (⟨termV k n s a l.length, 39⟩ : Blk)] = h1 at o1 k1 q1
  obtain ⟨o2, k2, q2⟩ := box_own (base := base) (t := 39) (h := h1) (cs := termV 0 0 ⟨#[]⟩ none 0) (by omega) rfl
  generalize hh2 : h1 ++ [some (⟨termV 0 0 ⟨#[]⟩ none 0, 39⟩ : Blk)] = h2 at o2 k2 q2
  obtain ⟨o3, k3, q3⟩ := box_own (base := base) (t := 39) (h := h2) (cs := termV k n s a l.length) (by omega) rfl
  generalize hh3 : h2 ++ [some (⟨termV k n s a l.length, 39⟩ : Blk)] = h3 at o3 k3 q3
  obtain ⟨o4, k4, q4'⟩ := box_own (base := base) (t := 39) (h := h3) (cs := []) (by omega) rfl
  generalize hh4 : h3 ++ [some (⟨[], 39⟩ : Blk)] = h4 at o4 k4 q4'
  obtain ⟨h5, e5, o5, k5, l5⟩ := (o3.keepN k4).wr0 (i := 3) (new := [.slice (at0 h3.length) 0 0]) (by simp) (by simp)
  have hset : setAt (termV k n s a l.length) 3 [.slice (at0 h3.length) 0 0] = termV k n s (at0 h3.length) 0 := rfl
  rw [hset] at o5
  have k04 : KB NoB h h4 := kN (kN (kN k1 k2) k3) k4
  have k05 : KB NoB h h5 := kFresh k04 k5 fun i hi => by omega
  obtain ⟨h6, ao, vs, T, e6, oo6, ow6, hv6, hc6, hT6, ha6, k6⟩ := l1Copy_loop (base := base) (l1CopyG_run f) (p := p) (l := l) (a := a) (b0 := h.length) (b1 := h1.length) (b2 := h2.length) (k := k) (n := n) (s := s) b2 b3 (fun b hb => by have := hp b hb; omega) (by omega) (by omega) l.length 0 h5 (at0 h3.length) [] (fun _ => False) (by omega) (hts.keep k05 fun _ _ h => h) (by omega)
   ((((o1.keepN k2).keepN k3).keepN k4).keepB k5 fun i hi => by rw [blk_at0] at hi; omega) o5 (o4.keepB k5 fun i hi => by rw [blk_at0] at hi; omega) (by simp) Chunks.nil (fun _ h => h.elim) (fun b hb => by rw [blk_at0] at hb; exact ⟨fun h => h, by omega⟩)
  have n6 := k6.1
  have z6 := (((o2.keepN k3).keepN k4).keepB k5 fun i hi => by rw [blk_at0] at hi; omega).keep k6 fun b hb hk => by rw [blk_at0] at hb; omega
  obtain ⟨h7, e7, o7, k7, l7⟩ := z6.wr0 (i := 0) (new := termV k n s ao l.length) (by simp) (by simp)
  have hz : setAt (termV 0 0 ⟨#[]⟩ none 0) 0 (termV k n s ao l.length) = termV k n s ao l.length := rfl
  rw [hz] at o7
  have ow7 := ow6.keepB k7 fun b hb => by have := (ha6 b hb).2; omega
  have hc7 := hc6.keep (TmG.kp _ _) k7 fun b hb hk => by have := hT6 b hb; omega
  refine ⟨termV k n s ao l.length, h7, Am.r221 (lets fun y1 ey => ?_), ⟨hs, hl, ao, rfl, ⟨vs, T, ow7, hv6, fun b hb' => ⟨⟨by have := (ha6 b hb').2; omega, by have := (ow7.lt hb').2; omega⟩, (ha6 b hb').1⟩, fun b hb' => by have := hT6 b hb'; constructor <;> omega, hc7⟩⟩, kFresh (kFresh k05 k6 fun i hi => by omega) k7 fun i hi => by omega⟩
  rw [hh1] at ey
  subst ey
  refine lets fun y2 ey => ?_
  rw [hh2] at ey
  subst ey
  refine q4 (o1.keepN k2) (nw (by omega) rfl fun y3 ey => ?_)
  rw [hh3] at ey
  subst ey
  refine lets fun y4 ey => ?_
  rw [hh4] at ey
  subst ey
  refine bs e5 ?_
  rw [show ((0 : Nat) : Int) = 0 from rfl] at e6
  refine bs e6 (ifT rfl (bs rfl (bs rfl (q4 oo6 (bs e7 (q4 o7 rfl))))))
end Go.Proofs.Ytjmkbglnjklbcaa.Am
set_option linter.unusedSimpArgs false
set_option linter.unusedVariables false
namespace Go.Proofs.Ytjmkbglnjklbcaa.Am
open Go Go.RowKit
structure Sd where
 kind : Int
 pid : Int
 t : Tm
def SsR (h : AH) (p : Nat → Prop) (f : Nat) (l : List Sd) (a : Option Addr) : Prop :=
 ∃ vs, Sl h a vs ∧ (vs = [] ∨ ∀ b, blk a b → p b) ∧ vs.length = l.length * 6 ∧ ∀ i x, l[i]? = some x → ∃ cs, (vs.drop (i * 6)).take 6 = .int .i64 x.kind :: .int .i64 x.pid :: cs ∧ TmR h p f x.t cs
theorem SsR.keep {h h' : AH} {p S : Nat → Prop} (k : KB S h h') (hp : ∀ b, p b → ¬ S b) {f : Nat} {l : List Sd} {a : Option Addr} (x : SsR h p f l a) : SsR h' p f l a := by
 obtain ⟨vs, h4, h5, h6, h7⟩ := x
 refine ⟨vs, ?_, h5, h6, fun i t hi => ?_⟩
 ·rcases h5 with e | h5
  ·exact .inl e
  ·exact h4.keep k fun b hb hs => hp b (h5 b hb) hs
 ·obtain ⟨cs, e, hm⟩ := h7 i t hi
  exact ⟨cs, e, TmR.keep k hp f _ _ hm⟩
theorem SsR.get {h : AH} {p : Nat → Prop} {f : Nat} {l : List Sd} {a : Option Addr} (x : SsR h p f l a) {i : Nat} (hi : i < l.length) :
  ∃ ad k n s a2 m, a = some ad ∧ ad.block < h.length ∧ Am.cell h ad.block (ad.off + i * 6) = some (.int .i64 l[i].kind) ∧ Am.cell h ad.block (ad.off + i * 6 + 1) = some (.int .i64 l[i].pid) ∧ Am.cell h ad.block (ad.off + i * 6 + 1 + 1) = some (.int .i64 k) ∧
   Am.cell h ad.block (ad.off + i * 6 + 1 + 1 + 1) = some (.int .i64 n) ∧ Am.cell h ad.block (ad.off + i * 6 + 1 + 1 + 1 + 1) = some (.string s) ∧ Am.cell h ad.block (ad.off + i * 6 + 1 + 1 + 1 + 1 + 1) = some (.slice a2 m m) ∧ TmR h p f l[i].t (termV k n s a2 m) := by
 obtain ⟨vs, h4, h5, h6, h7⟩ := x
 have hlt : i * 6 + 5 < vs.length := by omega
 obtain ⟨cs, ecs, hm⟩ := h7 i l[i] (List.getElem?_eq_getElem hi)
 cases f with
 | zero => exact hm.elim
 | succ f =>
  generalize ht : l[i].t = tt at hm
  obtain ⟨k, n, s, ll⟩ := tt
  obtain ⟨a2, rfl, _, _, _⟩ := hm.parts
  have each : ∀ (j : Nat) (v : Value), (Value.int .i64 l[i].kind :: .int .i64 l[i].pid :: termV k n s a2 ll.length)[j]? = some v → vs[i * 6 + j]? = some v := by
   intro j v hv
   have hj : j < 6 := by have := (List.getElem?_eq_some_iff.1 hv).1; simpa using this
   rw [← ecs, List.getElem?_take_of_lt hj, List.getElem?_drop] at hv
   exact hv
  rcases h4 with e | ⟨ad, kk, e1, e2, e3, e4⟩
  ·subst e; simp at hlt
  ·have c : ∀ (j : Nat) (v : Value), (Value.int .i64 l[i].kind :: .int .i64 l[i].pid :: termV k n s a2 ll.length)[j]? = some v → Am.cell h ad.block (ad.off + i * 6 + j) = some v := by
    intro j v hv
    have := e4 _ _ (each j v hv)
    rw [Nat.add_assoc]
    simp [Am.cell, e2, this]
   exact ⟨ad, k, n, s, a2, ll.length, e1, hget_lt e2, c 0 _ rfl, c 1 _ rfl, c 2 _ rfl, c 3 _ rfl, c 4 _ rfl, c 5 _ rfl, hm⟩
abbrev saidV (kind pid k n : Int) (s : ByteArray) (a : Option Addr) (m : Nat) : List Value := [.int .i64 kind, .int .i64 pid, .int .i64 k, .int .i64 n, .string s, .slice a m m]
theorem g6 {kind pid k n : Int} {s : ByteArray} {a : Option Addr} {m : Nat} {β : Type} {f : Int → Int → Int → Int → ByteArray → Option Addr × Nat → Option β} {z : Option β} (hf : f kind pid k n s (a, m) = z) :
  (((some (Value.agg (saidV kind pid k n s a m).toArray)).bind (getAgg 6)).bind fun l => ((l[0]?).bind (getI .i64)).bind fun n1 => ((l[1]?).bind (getI .i64)).bind fun n2 => ((l[2]?).bind (getI .i64)).bind fun n3 => ((l[3]?).bind (getI .i64)).bind fun n4 => ((l[4]?).bind getStr).bind fun s5 => ((l[5]?).bind getS).bind fun l6 => f n1 n2 n3 n4 s5 l6) = z := hf
theorem SsR.le {h : AH} {p : Nat → Prop} {f f' : Nat} (hf : f ≤ f') {l : List Sd} {a : Option Addr} (x : SsR h p f l a) : SsR h p f' l a := by
 obtain ⟨vs, h1, h2, h3, h4⟩ := x
 exact ⟨vs, h1, h2, h3, fun i y hy => by obtain ⟨cs, e, m⟩ := h4 i y hy; exact ⟨cs, e, m.le hf⟩⟩
end Go.Proofs.Ytjmkbglnjklbcaa.Am
set_option linter.unusedSimpArgs false
set_option linter.unusedVariables false
namespace Go.Proofs.Ytjmkbglnjklbcaa.Am
open Go Go.RowKit
end Go.Proofs.Ytjmkbglnjklbcaa.Am
set_option linter.unusedSimpArgs false
set_option linter.unusedVariables false
namespace Go.Proofs.Ytjmkbglnjklbcaa.Am
open Go Go.RowKit
theorem q6 {base t n : Nat} {h : AH} {kind pid k nn : Int} {s : ByteArray} {a : Option Addr} {m : Nat} (o : Own base t h (at0 n) (saidV kind pid k nn s a m)) {β : Type} {f : Int → Int → Int → Int → ByteArray → Option Addr × Nat → Option β} {z : Option β} (hf : f kind pid k nn s (a, m) = z) :
  (((Am.cell h n 0).bind (getI .i64)).bind fun n1 => ((Am.cell h n 1).bind (getI .i64)).bind fun n2 => ((Am.cell h n 2).bind (getI .i64)).bind fun n3 => ((Am.cell h n 3).bind (getI .i64)).bind fun n4 => ((Am.cell h n 4).bind getStr).bind fun s5 => ((Am.cell h n 5).bind getS).bind fun l6 => f n1 n2 n3 n4 s5 l6) = z :=
 bI (o.at0 (i := 0) rfl) (bI (o.at0 (i := 1) rfl) (bI (o.at0 (i := 2) rfl) (bI (o.at0 (i := 3) rfl) (bT (o.at0 (i := 4) rfl) (bS (o.at0 (i := 5) rfl) hf)))))
def d0 : Sd := ⟨0, 0, .mk 0 0 ⟨#[]⟩ []⟩
end Go.Proofs.Ytjmkbglnjklbcaa.Am
set_option linter.unusedSimpArgs false
set_option linter.unusedVariables false
namespace Go.Proofs.Ytjmkbglnjklbcaa.Am
open Go Go.RowKit
def SdD (f : Nat) (S : Fp) (h : AH) (x : Sd) (cs : List Value) : Prop := ∃ k n s a m, cs = saidV x.kind x.pid k n s a m ∧ TmD f S h x.t (termV k n s a m)
theorem SdD.kp (f : Nat) : Kp (SdD f) := fun S U h h' x cs k hs y => by
 obtain ⟨k1, n, s, a, m, e, r⟩ := y
 exact ⟨k1, n, s, a, m, e, TmD.kp f _ _ _ _ _ _ k hs r⟩
theorem SdD.mo (f : Nat) : Mo (SdD f) := fun S S' h x cs hs y => by
 obtain ⟨k1, n, s, a, m, e, r⟩ := y
 exact ⟨k1, n, s, a, m, e, TmD.mo f _ _ _ _ _ hs r⟩
inductive IsMT : List Sd → Int → Int → Prop
 | nil (k : Int) : IsMT [] k k
 | cons {k k1 k2 : Int} {l : List Tm} {r : List Sd} : IsM l (k + 5) k1 → IsMT r k1 k2 → IsMT (⟨k, k + 1, .mk (k + 2) (k + 3) (mt (k + 4)) l⟩ :: r) k k2
theorem IsMT.le {l : List Sd} {k k' : Int} (x : IsMT l k k') : k ≤ k' := by
 induction x with
 | nil => exact Int.le_refl _
 | cons m _ ih2 => have := m.le; omega
end Go.Proofs.Ytjmkbglnjklbcaa.Am
set_option linter.unusedSimpArgs false
set_option linter.unusedVariables false
namespace Go.Proofs.Ytjmkbglnjklbcaa.Am
open Go Go.RowKit
theorem atom_run {base : Nat} {h : AH} {w : ByteArray} (hb : base ≤ h.length) : ∃ h', run (Et base) 161 [.string w] h = some (.agg (termV 2 0 w none 0).toArray, h') ∧ KB NoB h h' := by
 obtain ⟨o1, k1, q1⟩ := box_own (base := base) (t := 39) (h := h) (cs := termV 0 0 ⟨#[]⟩ none 0) hb rfl
 generalize hh1 : h ++ [some (⟨termV 0 0 ⟨#[]⟩ none 0, 39⟩ : Blk)] = h1 at o1 k1 q1
 obtain ⟨h2, e2, o2, k2, l2⟩ := o1.wr0 (i := 0) (new := termV 2 0 w none 0) (by simp) (by simp)
 have hz : setAt (termV 0 0 ⟨#[]⟩ none 0) 0 (termV 2 0 w none 0) = termV 2 0 w none 0 := rfl
 rw [hz] at o2
 refine ⟨h2, Am.r161 (lets fun h1' eh => ?_), KB.trans k1 k2 (fun _ _ h => h) (fun i hi h => by omega)⟩
 rw [hh1] at eh
 subst eh
 exact bs e2 (bI (o2.at0 (i := 0) rfl) (bI (o2.at0 (i := 1) rfl) (bT (o2.at0 (i := 2) rfl) (bS (o2.at0 (i := 3) rfl) rfl))))
end Go.Proofs.Ytjmkbglnjklbcaa.Am
set_option linter.unusedSimpArgs false
set_option linter.unusedVariables false
namespace Go.Proofs.Ytjmkbglnjklbcaa.Am
open Go Go.RowKit
end Go.Proofs.Ytjmkbglnjklbcaa.Am
set_option linter.unusedSimpArgs false
set_option linter.unusedVariables false
namespace Go.Proofs.Ytjmkbglnjklbcaa.Am
open Go Go.RowKit
end Go.Proofs.Ytjmkbglnjklbcaa.Am
set_option linter.unusedSimpArgs false
set_option linter.unusedVariables false
namespace Go.Proofs.Ytjmkbglnjklbcaa.Am
open Go Go.RowKit
end Go.Proofs.Ytjmkbglnjklbcaa.Am
set_option linter.unusedSimpArgs false
set_option linter.unusedVariables false
namespace Go.Proofs.Ytjmkbglnjklbcaa.Am
open Go Go.RowKit
end Go.Proofs.Ytjmkbglnjklbcaa.Am
set_option linter.unusedSimpArgs false
set_option linter.unusedVariables false
namespace Go.Proofs.Ytjmkbglnjklbcaa.Am
open Go Go.RowKit
end Go.Proofs.Ytjmkbglnjklbcaa.Am
set_option linter.unusedSimpArgs false
set_option linter.unusedVariables false
namespace Go.Proofs.Ytjmkbglnjklbcaa.Am
open Go Go.RowKit
structure Pl where
 code : List In
 acs : List Ac
 next : Int
 out : List Sd
abbrev plV (a : Option Addr) (n : Nat) (b : Option Addr) (m : Nat) (v : Int) (g : Option Addr) (q : Nat) : List Value := [.slice a n n, .slice b m m, .int .i64 v, .slice g q q]
def PlR (h : AH) (p : Nat → Prop) (f : Nat) (P : Pl) (cs : List Value) : Prop :=
 ∃ a b g, cs = plV a P.code.length b P.acs.length P.next g P.out.length ∧ Sl h a (insR P.code) ∧ (insR P.code = [] ∨ ∀ x, blk a x → p x) ∧ AsR h p f P.acs b ∧ SsR h p f P.out g
def PlM (P : Pl) : Prop := P.code.length ≤ 9223372036854775807 ∧ (∀ x ∈ P.code, x.s.size ≤ 9223372036854775807) ∧ P.acs.length ≤ 9223372036854775807 ∧ (∀ A ∈ P.acs, AcM A) ∧ P.out.length ≤ 9223372036854775807
def PlB (f : Nat) (P : Pl) : Prop := P.code.length ≤ 1048576 ∧ (∀ x ∈ P.code, x.s.size ≤ 1048576) ∧ P.acs.length ≤ 1048576 ∧ (∀ A ∈ P.acs, AcB f A) ∧ P.out.length ≤ 1048576 ∧ (∀ x ∈ P.out, TmB f x.t)
theorem PlB.M {f : Nat} {P : Pl} (x : PlB f P) : PlM P := by
 obtain ⟨h1, h2, h3, h4, h5, _⟩ := x
 exact ⟨by omega, fun x hx => by have := h2 x hx; omega, by omega, fun A hA => (h4 A hA).M, by omega⟩
def PlD (base f : Nat) (S : Fp) (h : AH) (P : Pl) (cs : List Value) : Prop :=
 ∃ (a b g : Option Addr) (S1 S2 S3 : Fp), cs = plV a P.code.length b P.acs.length P.next g P.out.length ∧ Own base 139 h a (insR P.code) ∧ (∀ x, blk a x → S1 x) ∧ RowD 5 (AcD base f) S2 h P.acs b ∧ RowD 6 (SdD f) S3 h P.out g ∧
  (∀ x, S1 x → S x) ∧ (∀ x, S2 x → S x) ∧ (∀ x, S3 x → S x) ∧ (∀ x, S1 x → ¬ S2 x) ∧ (∀ x, S1 x → ¬ S3 x) ∧ (∀ x, S2 x → ¬ S3 x)
theorem PlR.keep {h h' : AH} {p S : Nat → Prop} (k : KB S h h') (hp : ∀ b, p b → ¬ S b) {f : Nat} {P : Pl} {cs : List Value} (x : PlR h p f P cs) : PlR h' p f P cs := by
 obtain ⟨a, b, g, e, h1, h2, h3, h4⟩ := x
 refine ⟨a, b, g, e, ?_, h2, h3.keep k hp, h4.keep k hp⟩
 rcases h2 with e | h2
 ·exact .inl e
 ·exact h1.keep k fun b hb hs => hp b (h2 b hb) hs
theorem PlR.keepN {h h' : AH} {p : Nat → Prop} (k : KB NoB h h') {f : Nat} {P : Pl} {cs : List Value} (x : PlR h p f P cs) : PlR h' p f P cs := x.keep k fun _ _ h => h
theorem PlD.kp (base f : Nat) : Kp (PlD base f) := fun S U h h' P cs k hs x => by
 obtain ⟨a, b, g, S1, S2, S3, e, h1, h2, h3, h4, s1, s2, s3, d1, d2, d3⟩ := x
 exact ⟨a, b, g, S1, S2, S3, e, h1.keep k fun b hb => hs b (s1 b (h2 b hb)), h2, h3.keep (AcD.kp _ _) k fun b hb => hs b (s2 b hb), h4.keep (SdD.kp _) k fun b hb => hs b (s3 b hb), s1, s2, s3, d1, d2, d3⟩
theorem PlD.mo (base f : Nat) : Mo (PlD base f) := fun S S' h P cs hs x => by
 obtain ⟨a, b, g, S1, S2, S3, e, h1, h2, h3, h4, s1, s2, s3, d1, d2, d3⟩ := x
 exact ⟨a, b, g, S1, S2, S3, e, h1, h2, h3, h4, fun x hx => hs x (s1 x hx), fun x hx => hs x (s2 x hx), fun x hx => hs x (s3 x hx), d1, d2, d3⟩
theorem PlD.form {base f : Nat} {S : Fp} {h : AH} {P : Pl} {cs : List Value} (x : PlD base f S h P cs) : ∃ a n b m v g q, cs = plV a n b m v g q := by
 obtain ⟨a, b, g, S1, S2, S3, e, _⟩ := x
 exact ⟨_, _, _, _, _, _, _, e⟩
end Go.Proofs.Ytjmkbglnjklbcaa.Am
set_option linter.unusedSimpArgs false
set_option linter.unusedVariables false
namespace Go.Proofs.Ytjmkbglnjklbcaa.Am
open Go Go.RowKit
end Go.Proofs.Ytjmkbglnjklbcaa.Am
set_option linter.unusedSimpArgs false
set_option linter.unusedVariables false
namespace Go.Proofs.Ytjmkbglnjklbcaa.Am
open Go Go.RowKit
def sameLs (g : Tm → Tm → Bool) : List Tm → List Tm → Bool
 | t :: r, u :: q => g t u && sameLs g r q
 | _, _ => true
def sameB : Nat → Tm → Tm → Bool
 | 0, _, _ => true
 | f + 1, .mk k n s l, .mk k' n' s' l' => if (k != k') = true then false else if (n != n') = true then false else if (!(s.toList == s'.toList)) = true then false else if ((l.length : Int) != (l'.length : Int)) = true then false else sameLs (sameB f) l l'
def SameR (base f F : Nat) : Prop := ∀ (f2 : Nat) (h : AH) (p p2 : Nat → Prop) (t u : Tm) (cs cs2 : List Value), TmR h p f t cs → TmR h p2 f2 u cs2 → base ≤ h.length →
 ∃ h', run (Et base) F [.agg cs.toArray, .agg cs2.toArray] h = some (.bool (sameB f t u), h') ∧ KB NoB h h'
theorem sameB_loop {base f f2 b0 b1 : Nat} (ih : SameR base f 163) {p p2 : Nat → Prop} {l m : List Tm} {a a2 : Option Addr} {k n k2 n2 : Int} {s s2 : ByteArray} (hl : l.length ≤ 9223372036854775807) (hlm : l.length = m.length) : ∀ (d i : Nat) (h : AH), i + d = l.length → TsR h p f l a → TsR h p2 f2 m a2 → Own base 39 h (at0 b0) (termV k n s a l.length) → Own base 39 h (at0 b1) (termV k2 n2 s2 a2 m.length) → base ≤ h.length →
  ∃ h', loopL (B163_0 base) [some (.pointer (at0 b0)), some (.pointer (at0 b1)), some (.int .i64 (l.length : Int)), some (.int .i64 (i : Int))] h = some (if sameLs (sameB f) (l.drop i) (m.drop i) = true then (2, [], h') else (1, [some (.bool false)], h')) ∧ KB NoB h h' := by
 intro d
 induction d with
 | zero =>
  intro i h hi hs hs2 o o2 hb
  refine ⟨h, ?_, KB.refl _ _⟩
  rw [List.drop_eq_nil_of_le (by omega)]
  rw [show sameLs (sameB f) [] (m.drop i) = true from rfl, if_pos rfl]
  refine loop_off (by decide) ?_
  rw [B163_0_eq]
  exact ifF (by simp; omega) rfl
 | succ d ihd =>
  intro i h hi hs hs2 o o2 hb
  have hlt : i < l.length := by omega
  have hlt2 : i < m.length := by omega
  obtain ⟨ad, c0, c1, c2, c3, c4, rfl, g0, g1, g2, g3, hm⟩ := hs.getT hlt
  obtain ⟨ad2, d0, d1, d2, d3, d4, rfl, y0, y1, y2, y3, hm2⟩ := hs2.getT hlt2
  obtain ⟨h1, e1, k1⟩ := ih f2 h p p2 l[i] m[i] _ _ hm hm2 hb
  rw [List.drop_eq_getElem_cons hlt, List.drop_eq_getElem_cons hlt2, sameLs]
  have head : ∀ {r : Option (Nat × Slots × AH)}, (if (!sameB f l[i] m[i]) = true then some (1, [some (.bool false)], h1) else some (0, [some (.pointer (at0 b0)), some (.pointer (at0 b1)), some (.int .i64 (l.length : Int)), some (.int .i64 (IntKind.wrap .i64 ((i : Int) + (1 : Int))))], h1)) = r → B163_0 base [some (.pointer (at0 b0)), some (.pointer (at0 b1)), some (.int .i64 (l.length : Int)), some (.int .i64 (i : Int))] h = r := by
   intro r hr
   rw [B163_0_eq]
   refine ifT (decide_eq_true (by omega)) (bS (o.at0 (i := 3) rfl) (ifT ⟨by omega, by simp; omega⟩ (bs rfl ?_)))
   simp only [Int.toNat_natCast]
   refine bI g0 (bI g1 (bT g2 (bS g3 (bS (o2.at0 (i := 3) rfl) (ifT ⟨by omega, by simp; omega⟩ (bs rfl ?_))))))
   exact bI y0 (bI y1 (bT y2 (bS y3 (bs e1 (bB rfl hr)))))
  cases c : sameB f l[i] m[i] with
  | false =>
   refine ⟨h1, ?_, k1⟩
   rw [Bool.false_and, if_neg (by decide)]
   exact loop_off (by decide) (head (by rw [c]; exact ifT rfl rfl))
  | true =>
   rw [Bool.true_and]
   obtain ⟨h2, m1, m2⟩ := ihd (i + 1) h1 (by omega) (hs.keep k1 fun _ _ h => h) (hs2.keep k1 fun _ _ h => h) (o.keepN k1) (o2.keepN k1) (by have := k1.1; omega)
   refine ⟨h2, loop_on (head ?_) m1, kN k1 m2⟩
   rw [c, w64i (n := (i : Int) + 1) (by omega) (by omega)]
   exact ifF (by decide) rfl
theorem implSame_run {base : Nat} : ∀ f, SameR base f 163
 | 0 => fun f2 h p p2 t u cs cs2 x => x.elim
 | f + 1 => fun f2 h p p2 t u cs cs2 x y hb => by
  cases f2 with
  | zero => exact y.elim
  | succ f2 =>
   obtain ⟨k, n, s, l⟩ := t
   obtain ⟨k', n', s', m⟩ := u
   obtain ⟨a, rfl, hts, _, hl⟩ := x.parts
   obtain ⟨a2, rfl, hts2, _, hl2⟩ := y.parts
   simp only [maxLen] at hl hl2
   obtain ⟨o1, k1, q1⟩ := box_own (base := base) (t := 39) (h := h) (cs := termV k n s a l.length) hb rfl
   generalize hh1 : h ++ [some (⟨termV k n s a l.length, 39⟩ : Blk)] = h1 at o1 k1 q1
   obtain ⟨o2, k2, q2⟩ := box_own (base := base) (t := 39) (h := h1) (cs := termV k' n' s' a2 m.length) (by omega) rfl
   generalize hh2 : h1 ++ [some (⟨termV k' n' s' a2 m.length, 39⟩ : Blk)] = h2 at o2 k2 q2
   have k02 := kN k1 k2
   have o1 := o1.keepN k2
   have fin : ∀ (q : Bool) {r : Value × AH}, ((if (k != k') = true then true else if (n != n') = true then true else if (!(s.toList == s'.toList)) = true then true else ((l.length : Int) != (m.length : Int))) = q) →
     (if q = true then some ((.bool false), h2) else (loopL (B163_0 base) [some (.pointer (at0 h.length)), some (.pointer (at0 h1.length)), some (.int .i64 (l.length : Int)), some (.int .i64 (0 : Int))] h2).bind fun q16 => (if q16.1 = 1 then ((sget q16.2.1 0).bind getB).bind fun b17 => some ((.bool b17), q16.2.2) else (if q16.1 = 2 then some ((.bool true), q16.2.2) else none))) = some r →
     run (Et base) 163 [.agg (termV k n s a l.length).toArray, .agg (termV k' n' s' a2 m.length).toArray] h = some r := by
    intro q r hq hr
    refine Am.r163 (lets fun y ey => ?_)
    rw [hh1] at ey
    rw [ey]
    refine lets fun y ey => ?_
    rw [hh2] at ey
    rw [ey]
    refine bj (q := ([some (.pointer (at0 h.length)), some (.pointer (at0 h1.length)), some (.bool q)], h2)) ?_ (bs rfl (bs rfl (bB rfl ?_)))
    ·rw [← hq]
     refine bI (o1.at0 (i := 0) rfl) (bI (o2.at0 (i := 0) rfl) ?_)
     by_cases c1 : (k != k') = true
     ·rw [if_pos c1, if_pos c1]
     rw [if_neg c1, if_neg c1]
     refine bI (o1.at0 (i := 1) rfl) (bI (o2.at0 (i := 1) rfl) ?_)
     by_cases c2 : (n != n') = true
     ·rw [if_pos c2, if_pos c2]
     rw [if_neg c2, if_neg c2]
     refine bT (o1.at0 (i := 2) rfl) (bT (o2.at0 (i := 2) rfl) ?_)
     by_cases c3 : (!(s.toList == s'.toList)) = true
     ·rw [if_pos c3, if_pos c3]
     rw [if_neg c3, if_neg c3]
     exact bS (o1.at0 (i := 3) rfl) (bS (o2.at0 (i := 3) rfl) rfl)
    ·cases q with
     | true => exact hr
     | false => exact ifF (by decide) (bS (o1.at0 (i := 3) rfl) hr)
   rw [sameB]
   by_cases c1 : (k != k') = true
   ·rw [if_pos c1] at fin ⊢
    exact ⟨h2, fin true rfl rfl, k02⟩
   rw [if_neg c1] at fin ⊢
   by_cases c2 : (n != n') = true
   ·rw [if_pos c2] at fin ⊢
    exact ⟨h2, fin true rfl rfl, k02⟩
   rw [if_neg c2] at fin ⊢
   by_cases c3 : (!(s.toList == s'.toList)) = true
   ·rw [if_pos c3] at fin ⊢
    exact ⟨h2, fin true rfl rfl, k02⟩
   rw [if_neg c3] at fin ⊢
   by_cases c4 : ((l.length : Int) != (m.length : Int)) = true
   ·rw [if_pos c4]
    exact ⟨h2, fin true c4 rfl, k02⟩
   rw [if_neg c4]
   have hlm : l.length = m.length := by
    have : (l.length : Int) = (m.length : Int) := by simpa using c4
    omega
   obtain ⟨h3, e3, k3⟩ := sameB_loop (base := base) (implSame_run f) (k := k) (n := n) (s := s) (k2 := k') (n2 := n') (s2 := s') (by omega) hlm l.length 0 h2 (by omega) (hts.keep k02 fun _ _ h => h) (hts2.keep k02 fun _ _ h => h) o1 o2 (by omega)
   rw [List.drop_zero, List.drop_zero, show ((0 : Nat) : Int) = 0 from rfl] at e3
   refine ⟨h3, fin false (by rw [hlm]; simp) (bs e3 ?_), kN k02 k3⟩
   cases sameLs (sameB f) l m with
   | true => exact ifF (show ¬ (2 : Nat) = 1 by decide) (ifT rfl rfl)
   | false => exact ifT rfl (bB rfl rfl)
end Go.Proofs.Ytjmkbglnjklbcaa.Am
set_option linter.unusedSimpArgs false
set_option linter.unusedVariables false
namespace Go.Proofs.Ytjmkbglnjklbcaa.Am
open Go Go.RowKit
def TyOk (base : Nat) (h : AH) (a : Option Addr) (t : Nat) : Prop := ∀ ad, a = some ad → ad.block < h.length ∧ (ad.block < base ∨ ∃ k, hget h ad.block = some k ∧ k.ty = t)
theorem TyOk.keep {base t : Nat} {S : Nat → Prop} {h h' : AH} {a : Option Addr} (x : TyOk base h a t) (k : KB S h h') (hS : ∀ b, blk a b → ¬ S b) : TyOk base h' a t := fun ad e => by
 obtain ⟨h1, h2⟩ := x ad e
 refine ⟨Nat.lt_of_lt_of_le h1 k.1, h2.imp id fun ⟨kk, e1, e2⟩ => ⟨kk, ?_, e2⟩⟩
 rw [k.2 _ h1 (hS _ ⟨ad, e, rfl⟩)]
 exact e1
theorem TyOk.keepN {base t : Nat} {h h' : AH} {a : Option Addr} (x : TyOk base h a t) (k : KB NoB h h') : TyOk base h' a t := x.keep k fun _ _ h => h
theorem TyOk.own {base t : Nat} {h : AH} {a : Option Addr} {vs : List Value} (o : Own base t h a vs) : TyOk base h a t := fun ad e => by
 rcases o with ⟨e2, _⟩ | ⟨ad2, k, e1, e2, e3, e4, _⟩
 ·rw [e2] at e; cases e
 ·rw [e1] at e; injection e with e; subst e
  exact ⟨hget_lt e3, .inr ⟨k, e3, e4⟩⟩
theorem TyOk.ok {base t : Nat} {h : AH} {a : Option Addr} (x : TyOk base h a t) (n : Nat) : okTy base h a t n = true := by
 unfold okTy
 cases a with
 | none => simp
 | some ad =>
  obtain ⟨_, h2⟩ := x ad rfl
  simp only
  rcases h2 with h2 | ⟨k, e1, e2⟩
  ·have : Nat.blt ad.block base = true := by rw [Nat.blt_eq]; exact h2
   rw [this]; simp
  ·rw [e1]
   subst e2
   simp
theorem TyOk.ne {base t : Nat} {h : AH} {a : Option Addr} (x : TyOk base h a t) {n : Nat} (hn : h.length ≤ n) : neA a n := fun ad e => by
 have := (x ad e).1
 omega
theorem Sl.part {h : AH} {a : Option Addr} {vs : List Value} (x : Sl h a vs) {n m : Nat} (hnm : n + m ≤ vs.length) : Sl h (shiftA a n) ((vs.drop n).take m) := by
 rcases x with e | ⟨ad, k, e1, e2, e3, e4⟩
 ·subst e; exact .inl (by simp)
 ·subst e1
  refine .inr ⟨_, k, rfl, e2, by simp; omega, fun i v hi => ?_⟩
  have hlt : i < m := by have := (List.getElem?_eq_some_iff.1 hi).1; simp at this; omega
  rw [List.getElem?_take_of_lt hlt, List.getElem?_drop] at hi
  simp only [Nat.add_assoc]
  exact e4 _ _ hi
end Go.Proofs.Ytjmkbglnjklbcaa.Am
set_option linter.unusedSimpArgs false
set_option linter.unusedVariables false
namespace Go.Proofs.Ytjmkbglnjklbcaa.Am
open Go Go.RowKit
end Go.Proofs.Ytjmkbglnjklbcaa.Am
set_option linter.unusedSimpArgs false
set_option linter.unusedVariables false
namespace Go.Proofs.Ytjmkbglnjklbcaa.Am
open Go Go.RowKit
theorem Own.app1 {base t bytes : Nat} {h : AH} {a : Option Addr} {olds : List Value} (x : Own base t h a olds) {n : Nat} (hn : olds.length = n) {v : Value} (hv : leaf v = true) (hb : base ≤ h.length)
  (h1 : (n + 1) * bytes ≤ 140737488355328) (h2 : n + 1 ≤ 9223372036854775807) :
  ∃ a' h', Am.app base (h ++ [some ⟨[v], t⟩]) t 1 bytes a n (rawAt (h ++ [some ⟨[v], t⟩]) (some ⟨h.length, 0, none⟩) (1 * 1)) 1 = some (.slice a' (n + 1) (n + 1), h') ∧ Own base t h' a' (olds ++ [v]) ∧ KB (blk a) h h' ∧ ∀ b, blk a' b → h.length ≤ b := by
 have hr : rawAt (h ++ [some ⟨[v], t⟩]) (some ⟨h.length, 0, none⟩) (1 * 1) = some [v] := (Own.new base t h [v] hb).sl.raw (by simp [hv])
 have k0 : KB NoB h (h ++ [some ⟨[v], t⟩]) := KB.push _ _ _
 obtain ⟨a', h', g1, g2, g3, g4⟩ := (x.keep k0 fun _ _ h => h.elim).app (n := n) (m := 1) (sz := 1) (bytes := bytes) (by omega) (by omega) hr (by simp; omega) h1 h2 (by simp)
 refine ⟨a', h', g1, g2, KB.trans k0 g3 (fun _ _ h => h.elim) (fun _ _ h => h), fun b hb' => ?_⟩
 rcases g4 with ⟨h0, _⟩ | g4
 ·omega
 ·have := g4 b hb'
  simp at this
  omega
end Go.Proofs.Ytjmkbglnjklbcaa.Am
set_option linter.unusedSimpArgs false
set_option linter.unusedVariables false
namespace Go.Proofs.Ytjmkbglnjklbcaa.Am
open Go Go.RowKit
def sb (s : ByteArray) : List Int := s.data.toList.map fun b => (b.toNat : Int)
theorem sb_len (s : ByteArray) : (sb s).length = s.size := by simp [sb]
theorem toList_loop (s : ByteArray) : ∀ (d i : Nat) (r : List UInt8), i + d = s.size → (ByteArray.toList.loop s i r).length = r.length + d
 | 0, i, r, h => by
  unfold ByteArray.toList.loop
  rw [if_neg (by omega)]
  simp
 | d + 1, i, r, h => by
  unfold ByteArray.toList.loop
  rw [if_pos (by omega), toList_loop s d (i + 1) _ (by omega)]
  simp only [List.length_cons]
  omega
theorem toList_len (s : ByteArray) : s.toList.length = s.size := by
 unfold ByteArray.toList
 rw [toList_loop s s.size 0 [] (by omega)]
 simp
theorem specB_size {x : In} {n : Int} (h : specB x n = true) : x.s.size ≤ 12 := by
 unfold specB at h
 simp only [Bool.and_eq_true] at h
 obtain ⟨_, _, _, _, _, h, _⟩ := h
 cases c : x.op == (2 : Int) with
 | true =>
  rw [c, if_pos rfl] at h
  unfold atomOk inB at h
  simp at h
  omega
 | false =>
  rw [c, if_neg (by decide)] at h
  unfold emp at h
  have := eq_of_beq h
  have h2 : x.s.toList.length = (⟨#[]⟩ : ByteArray).toList.length := by rw [this]
  rw [toList_len, toList_len] at h2
  have : (⟨#[]⟩ : ByteArray).size = 0 := rfl
  omega
theorem allIns_mem {n : Int} : ∀ {l : List In}, allIns n l = true → ∀ x ∈ l, specB x n = true
 | [], _, x, hx => by cases hx
 | y :: r, h, x, hx => by
  simp only [allIns, Bool.and_eq_true] at h
  rcases List.mem_cons.1 hx with rfl | hx
  ·exact h.1
  ·exact allIns_mem h.2 x hx
theorem codeOk_spec {l : List In} (h : codeOk l = true) : l.length ≤ 200 ∧ 1 ≤ l.length ∧ ∀ x ∈ l, x.s.size ≤ 12 := by
 unfold codeOk at h
 simp only [Bool.and_eq_true] at h
 obtain ⟨h1, _, h2⟩ := h
 unfold inB at h1
 simp at h1
 exact ⟨by omega, by omega, fun x hx => specB_size (allIns_mem h2 x hx)⟩
end Go.Proofs.Ytjmkbglnjklbcaa.Am
set_option linter.unusedSimpArgs false
set_option linter.unusedVariables false
namespace Go.Proofs.Ytjmkbglnjklbcaa.Am
open Go Go.RowKit
theorem sh_bd {k n : Int} {s : ByteArray} {m : Nat} (h : shB k n s m = true) : s.size ≤ 40 ∧ m ≤ 20 := by
 have e0 : ∀ {t : ByteArray}, (t.toList == (⟨#[]⟩ : ByteArray).toList) = true → t.size = 0 := fun {t} e => by
  have e := beq_iff_eq.1 e
  have := toList_len t
  rw [e] at this
  simpa using this.symm
 unfold shB at h
 split at h
 ·simp only [Bool.and_eq_true] at h
  have := e0 h.1.2
  have := beq_iff_eq.1 h.2
  omega
 split at h
 ·simp only [Bool.and_eq_true] at h
  have hh := h.1.2
  unfold atomOk inB at hh
  simp only [Bool.and_eq_true, decide_eq_true_eq] at hh
  have := beq_iff_eq.1 h.2
  omega
 split at h
 ·simp only [Bool.and_eq_true] at h
  have := e0 h.1.2
  have := beq_iff_eq.1 h.2
  omega
 split at h
 ·simp only [Bool.and_eq_true, decide_eq_true_eq] at h
  have := e0 h.1.2
  omega
 split at h
 ·simp only [Bool.and_eq_true, decide_eq_true_eq] at h
  have := e0 h.1.2
  omega
 split at h
 ·simp only [Bool.and_eq_true, decide_eq_true_eq] at h
  have := beq_iff_eq.1 h.2
  omega
 ·cases h
theorem lk_cnt : ∀ (f : Nat) (t : Tm) (deep left : Int), 0 ≤ lk f t deep left → TmB f t ∧ (tcnt f t : Int) + 1 + lk f t deep left ≤ left
 | 0, _, _, _, h => by simp only [lk] at h; omega
 | f + 1, .mk k n s l, deep, left, h => by
  rw [lk] at h ⊢
  split at h
  ·omega
  rename_i hn
  rw [if_neg hn]
  have hsh : shB k n s l.length = true := by
   cases c : shB k n s l.length with
   | true => rfl
   | false => exact absurd (.inr (.inr c)) hn
  obtain ⟨b1, b2⟩ := sh_bd hsh
  have hl : ∀ (r : List Tm) (d x : Int), 0 ≤ lkS (lk f) r d x → (∀ t ∈ r, TmB f t) ∧ ((r.length + sumL (tcnt f) r : Nat) : Int) + lkS (lk f) r d x ≤ x := by
   intro r
   induction r with
   | nil => intro d x hx; exact ⟨fun t ht => (by cases ht), by simp [sumL, lkS]⟩
   | cons t r ihr =>
    intro d x hx
    rw [lkS] at hx ⊢
    split at hx
    ·rename_i h0
     rw [if_pos h0]
     have h1 : 0 ≤ lk f t d x := by
      by_cases hc : 0 ≤ lk f t d x
      ·exact hc
      ·rw [lkS_neg _ _ _ _ (by omega)] at hx; omega
     obtain ⟨a1, a2⟩ := lk_cnt f t d x h1
     obtain ⟨c1, c2⟩ := ihr d _ hx
     refine ⟨fun u hu => ?_, by simp only [List.length_cons, sumL]; omega⟩
     rcases List.mem_cons.1 hu with rfl | hu
     ·exact a1
     ·exact c1 u hu
    ·omega
  obtain ⟨c1, c2⟩ := hl l (deep - 1) (left - 1) h
  refine ⟨⟨by omega, by omega, c1⟩, ?_⟩
  simp only [tcnt]
  omega
theorem tOk_B {f : Nat} {t : Tm} (h : tOk f t = true) : TmB f t ∧ tcnt f t ≤ 100 := by
 have h := of_decide_eq_true h
 obtain ⟨a, b⟩ := lk_cnt f t 6 100 h
 exact ⟨a, by omega⟩
def InB (x : In) : Prop := (0 ≤ x.a ∧ x.a ≤ 7) ∧ (0 ≤ x.b ∧ (x.op = 11 ∨ x.b ≤ 7)) ∧ (0 ≤ x.c ∧ x.c ≤ 7) ∧ (x.op = 4 → 0 ≤ x.n ∧ x.b + x.n ≤ 8) ∧ (x.op = 6 → 0 ≤ x.n) ∧ 1 ≤ x.op ∧ x.op ≤ 20
theorem reg_bd {s : ByteArray} {c r : Int} (h : regB s c r = true) : 0 ≤ r ∧ r ≤ 7 := by
 unfold regB at h
 split at h
 ·have := beq_iff_eq.1 h; omega
 ·unfold inB at h
  simp only [Bool.and_eq_true, decide_eq_true_eq] at h
  omega
theorem specB_bd {x : In} {n : Int} (h : specB x n = true) : InB x := by
 unfold specB at h
 simp only [Bool.and_eq_true] at h
 obtain ⟨_, h2, h3, h4, h5, _, h7⟩ := h
 have ha := reg_bd h3
 have hc := reg_bd h4
 have hb : 0 ≤ x.b ∧ (x.op = 11 ∨ x.b ≤ 7) := by
  split at h5
  ·rename_i e
   have e := beq_iff_eq.1 e
   unfold inB at h5
   simp only [Bool.and_eq_true, decide_eq_true_eq] at h5
   exact ⟨by omega, .inl e⟩
  ·have := reg_bd h5
   exact ⟨this.1, .inr this.2⟩
 unfold inB at h2
 simp only [Bool.and_eq_true, decide_eq_true_eq] at h2
 refine ⟨ha, hb, hc, fun e => ?_, fun e => ?_, h2.1, h2.2⟩
 ·have hb7 : x.b ≤ 7 := hb.2.resolve_left (by omega)
  unfold numB at h7
  rw [if_neg (by rw [e]; decide), if_pos (by rw [e]; decide)] at h7
  split at h7
  ·rename_i hn
   unfold inB at hn
   simp only [Bool.and_eq_true, decide_eq_true_eq] at hn h7
   rw [w64i (by omega) (by omega)] at h7
   omega
  ·cases h7
 ·unfold numB at h7
  rw [if_neg (by rw [e]; decide), if_neg (by rw [e]; decide), if_pos (by rw [e]; decide)] at h7
  unfold inB at h7
  simp only [Bool.and_eq_true, decide_eq_true_eq] at h7
  omega
theorem codeOk_bd {l : List In} (h : codeOk l = true) : ∀ x ∈ l, InB x := by
 unfold codeOk at h
 simp only [Bool.and_eq_true] at h
 exact fun x hx => specB_bd (allIns_mem h.2.2 x hx)
structure Acd where
 kind : Int
 pid : Int
 pc : Int
 t : Tm
abbrev actV (kind pid pc k n : Int) (s : ByteArray) (a : Option Addr) (m : Nat) : List Value := [.int .i64 kind, .int .i64 pid, .int .i64 pc, .int .i64 k, .int .i64 n, .string s, .slice a m m]
def Tm.kd : Tm → Int | .mk k _ _ _ => k
def Tm.nm : Tm → Int | .mk _ n _ _ => n
def Tm.ls : Tm → List Tm | .mk _ _ _ l => l
def tmZ : Tm := .mk 0 0 ⟨#[]⟩ []
def rg (R : List Tm) (i : Int) : Tm := R.getD i.toNat tmZ
def actsF (x : In) (R : List Tm) (next : Int) : Acd × Bool :=
 if (x.op == (13 : Int)) = true then (⟨3, (rg R x.a).nm, 0, rg R x.b⟩, (rg R x.a).kd == (3 : Int))
 else if (x.op == (16 : Int)) = true then (⟨4, next, x.n, rg R x.b⟩, true)
 else if (x.op == (17 : Int)) = true then (⟨5, 0, 0, rg R x.a⟩, true)
 else if (x.op == (18 : Int)) = true then (⟨6, (rg R x.a).nm, 0, tmZ⟩, (rg R x.a).kd == (3 : Int))
 else if (x.op == (19 : Int)) = true then (⟨7, 0, 0, rg R x.a⟩, true)
 else (⟨1, 0, 0, tmZ⟩, true)
def madeF (x : In) (R : List Tm) (pid next : Int) : Option Tm :=
 if (x.op == (1 : Int)) = true then some (.mk 1 x.n ⟨#[]⟩ [])
 else if (x.op == (2 : Int)) = true then some (.mk 2 0 x.s [])
 else if (x.op == (20 : Int)) = true then some (.mk 5 0 ⟨#[]⟩ [])
 else if (x.op == (3 : Int)) = true then some (rg R x.b)
 else if (x.op == (4 : Int)) = true then some (.mk 4 0 ⟨#[]⟩ ((R.drop x.b.toNat).take x.n.toNat))
 else if (x.op == (5 : Int)) = true then (if ((rg R x.c).kd == (5 : Int)) = true then some (.mk 5 0 ⟨#[]⟩ (rg R x.b :: (rg R x.c).ls)) else none)
 else if (x.op == (6 : Int)) = true then (if (if ((rg R x.b).kd != (4 : Int)) = true then true else decide (x.n ≥ ((rg R x.b).ls.length : Int))) = true then none else some ((rg R x.b).ls.getD x.n.toNat tmZ))
 else if (x.op == (7 : Int)) = true then (if (if ((rg R x.b).kd != (5 : Int)) = true then true else (((rg R x.b).ls.length : Int) == (0 : Int))) = true then none else some ((rg R x.b).ls.getD 0 tmZ))
 else if (x.op == (8 : Int)) = true then (if (if ((rg R x.b).kd != (5 : Int)) = true then true else (((rg R x.b).ls.length : Int) == (0 : Int))) = true then none else some (.mk 5 0 ⟨#[]⟩ ((rg R x.b).ls.drop 1)))
 else if (x.op == (9 : Int)) = true then (if ((rg R x.b).kd == (1 : Int)) = true then (if ((rg R x.c).kd == (1 : Int)) = true then some (.mk 1 (IntKind.wrap .i64 ((rg R x.b).nm + (rg R x.c).nm)) ⟨#[]⟩ []) else none) else none)
 else if (x.op == (15 : Int)) = true then some (.mk 3 pid ⟨#[]⟩ [])
 else some (.mk 3 next ⟨#[]⟩ [])
def makesF (op : Int) : Bool := !(if (op == (10 : Int)) = true then true else if (op == (11 : Int)) = true then true else if (op == (12 : Int)) = true then true else if (op == (13 : Int)) = true then true else if (op == (17 : Int)) = true then true else if (op == (18 : Int)) = true then true else (op == (19 : Int)))
def jumpsF (f : Nat) (x : In) (R : List Tm) : Bool := if (x.op == (10 : Int)) = true then !sameB f (rg R x.a) (rg R x.b) else if (x.op == (11 : Int)) = true then ((rg R x.a).kd != x.b) else (x.op == (12 : Int))
theorem TsR.part {h : AH} {p : Nat → Prop} {f : Nat} {l : List Tm} {a : Option Addr} (x : TsR h p f l a) {i n : Nat} (hin : i + n ≤ l.length) : TsR h p f ((l.drop i).take n) (shiftA a (i * 4)) := by
 obtain ⟨vs, h1, h2, h3, h4⟩ := x
 refine ⟨(vs.drop (i * 4)).take (n * 4), h1.part (by omega), ?_, ?_, fun j t hj => ?_⟩
 ·rcases h2 with e | h2
  ·exact .inl (by rw [e]; simp)
  ·refine .inr fun b hb => ?_
   obtain ⟨ad, e, hb⟩ := hb
   cases a with
   | none => cases e
   | some a0 =>
    injection e with e
    subst e
    exact h2 b ⟨a0, rfl, hb⟩
 ·simp; omega
 ·have hjn : j < n := by have := (List.getElem?_eq_some_iff.1 hj).1; simp at this; omega
  rw [List.getElem?_take_of_lt hjn, List.getElem?_drop] at hj
  have := h4 _ _ hj
  rw [show (((vs.drop (i * 4)).take (n * 4)).drop (j * 4)).take 4 = (vs.drop ((i + j) * 4)).take 4 from ?_]
  ·exact this
  ·apply List.ext_getElem?
   intro q
   by_cases hq : q < 4
   ·rw [List.getElem?_take_of_lt hq, List.getElem?_take_of_lt hq, List.getElem?_drop, List.getElem?_drop, List.getElem?_take_of_lt (by omega), List.getElem?_drop, show i * 4 + (j * 4 + q) = (i + j) * 4 + q from by omega]
   ·rw [List.getElem?_eq_none (by simp; omega), List.getElem?_eq_none (by simp; omega)]
theorem termV_leaf {cs : List Value} {h : AH} {p : Nat → Prop} {f : Nat} {t : Tm} (x : TmR h p f t cs) : ∀ v ∈ cs, leaf v = true := by
 obtain ⟨k, n, s, a, m, rfl⟩ := x.form
 intro v hv
 simp only [List.mem_cons, List.not_mem_nil, or_false] at hv
 rcases hv with rfl | rfl | rfl | rfl <;> rfl
theorem TsR.raw {h : AH} {p : Nat → Prop} {f : Nat} {l : List Tm} {a : Option Addr} (x : TsR h p f l a) : ∃ vs, rawAt h a (l.length * 4) = some vs ∧ vs.length = l.length * 4 ∧ ∀ i t, l[i]? = some t → TmR h p f t ((vs.drop (i * 4)).take 4) := by
 obtain ⟨vs, h1, h2, h3, h4⟩ := x
 refine ⟨vs, ?_, h3, h4⟩
 rw [← h3]
 refine h1.raw ?_
 rw [List.all_eq_true]
 intro v hv
 obtain ⟨q, hq, rfl⟩ := List.mem_iff_getElem.1 hv
 have hi : q / 4 < l.length := by omega
 have hm := h4 (q / 4) _ (List.getElem?_eq_getElem hi)
 refine termV_leaf hm _ (List.mem_iff_getElem.2 ⟨q % 4, by simp; omega, ?_⟩)
 simp only [List.getElem_take, List.getElem_drop]
 congr 1
 omega
theorem RowO.getG {base t f : Nat} {S : Fp} {h : AH} {l : List Tm} {al : Option Addr} (x : RowO base t 4 (TmG base f) S h l al) {i : Nat} (hi : i < l.length) :
  ∃ ad k n s a2 m C, al = some ad ∧ ad.block < h.length ∧ Am.cell h ad.block (ad.off + i * 4) = some (.int .i64 k) ∧ Am.cell h ad.block (ad.off + i * 4 + 1) = some (.int .i64 n) ∧ Am.cell h ad.block (ad.off + i * 4 + 1 + 1) = some (.string s) ∧ Am.cell h ad.block (ad.off + i * 4 + 1 + 1 + 1) = some (.slice a2 m m) ∧ TmG base f C h l[i] (termV k n s a2 m) ∧ (∀ b, C b → S b) := by
 obtain ⟨vs, T, x1, x2, x3, x4, C, c1, c2, c3⟩ := x
 have hm := c3 i _ (List.getElem?_eq_getElem hi)
 obtain ⟨k, n, s, a2, m, e⟩ := hm.form
 rw [e] at hm
 have each : ∀ (j : Nat) (v : Value), (termV k n s a2 m)[j]? = some v → vs[i * 4 + j]? = some v := by
  intro j v hv
  have hj : j < 4 := by have := (List.getElem?_eq_some_iff.1 hv).1; simpa using this
  rw [← e] at hv
  unfold chunk at hv
  rw [List.getElem?_take_of_lt hj, List.getElem?_drop] at hv
  exact hv
 have hne : vs ≠ [] := by intro e; subst e; simp at x2; omega
 rcases x1 with ⟨_, e2⟩ | ⟨ad, kk, e1, _, e2, _, _, e4⟩
 ·exact absurd e2 hne
 ·have c : ∀ (j : Nat) (v : Value), (termV k n s a2 m)[j]? = some v → Am.cell h ad.block (ad.off + i * 4 + j) = some v := by
   intro j v hv
   have := e4 _ _ (each j v hv)
   rw [Nat.add_assoc]
   simp [Am.cell, e2, this]
  exact ⟨ad, k, n, s, a2, m, C i, e1, hget_lt e2, c 0 _ rfl, c 1 _ rfl, c 2 _ rfl, c 3 _ rfl, hm, fun b hb => x4 b (c1 i b hb)⟩
theorem RowO.tyOk {α : Type} {w base t : Nat} {P : Fp → AH → α → List Value → Prop} {S : Fp} {h : AH} {l : List α} {a : Option Addr} (x : RowO base t w P S h l a) (n : Nat) : okTy base h a t n = true := by
 obtain ⟨vs, T, x1, _⟩ := x
 exact (TyOk.own x1).ok n
theorem rg_eq {R : List Tm} {i : Int} (h0 : 0 ≤ i) (h1 : i.toNat < R.length) : rg R i = R[i.toNat] := by
 unfold rg
 simp [h1]
end Go.Proofs.Ytjmkbglnjklbcaa.Am
