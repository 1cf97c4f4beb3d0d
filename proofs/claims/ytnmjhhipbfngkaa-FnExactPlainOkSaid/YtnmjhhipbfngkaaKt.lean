/- Small steps that all proofs take.
Conditions: none. -/
import Derived.Test.YtnmjhhipbfngkaaMd
import Derived.IntWalk
set_option linter.unusedSimpArgs false
set_option linter.unusedVariables false
namespace Go.Proofs.Ytnmjhhipbfngkaa.Am
open Go Go.RowKit

theorem w64i {n : Int} (h0 : -9223372036854775808 ≤ n) (h1 : n ≤ 9223372036854775807) : IntKind.i64.wrap n = n := IntWalk.i64_in n ⟨h0, h1⟩

theorem lets {α β : Type} {x : α} {f : α → Option β} {r : Option β} (h : ∀ y, y = x → f y = r) : (some x).bind f = r := h x rfl
abbrev at0 (b : Nat) : Option Addr := some ⟨b, 0, none⟩
theorem blk_at0 {b x : Nat} : blk (at0 b) x ↔ x = b := ⟨fun ⟨ad, e, h⟩ => by injection e with e; subst e; exact h.symm, fun e => ⟨_, rfl, e.symm⟩⟩
theorem box_own {base t : Nat} {h h1 : AH} {cs : List Value} (hb : base ≤ h.length) (e : h1 = h ++ [some ⟨cs, t⟩]) : Own base t h1 (at0 h.length) cs ∧ KB NoB h h1 ∧ h1.length = h.length + 1 := by
  subst e
  exact ⟨Own.new base t h cs hb, KB.push _ _ _, by simp⟩
theorem Own.at0 {base t : Nat} {h : AH} {b : Nat} {vs : List Value} (x : Own base t h (at0 b) vs) {i : Nat} {v : Value} (hi : vs[i]? = some v) : Am.cell h b i = some v := by
  obtain ⟨ad, e, hc⟩ := x.sl.cell hi
  injection e with e
  subst e
  simpa using hc
theorem Own.wr0 {base t : Nat} {h : AH} {b : Nat} {vs : List Value} (x : Own base t h (Am.at0 b) vs) {i : Nat} {new : List Value} (hi : i + new.length ≤ vs.length) (h0 : 0 < new.length) :
    ∃ h', Am.wr base h b i new = some h' ∧ Own base t h' (Am.at0 b) (setAt vs i new) ∧ KB (· = b) h h' ∧ h'.length = h.length := by
  obtain ⟨ad, h', e, h1, h2, h3, h4⟩ := x.wr hi h0
  injection e with e
  subst e
  refine ⟨h', by simpa using h1, h2, h3.mono fun i _ hb => blk_at0.1 hb, h4⟩
theorem Own.keepN {base t : Nat} {h h' : AH} {a : Option Addr} {vs : List Value} (x : Own base t h a vs) (k : KB NoB h h') : Own base t h' a vs := x.keep k fun _ _ h => h.elim
theorem Sl.keepN {h h' : AH} {a : Option Addr} {vs : List Value} (x : Sl h a vs) (k : KB NoB h h') : Sl h' a vs := x.keep k fun _ _ h => h.elim
theorem Own.keepB {base t b : Nat} {h h' : AH} {a : Option Addr} {vs : List Value} (x : Own base t h a vs) (k : KB (· = b) h h') (hb : ∀ i, blk a i → i ≠ b) : Own base t h' a vs := x.keep k fun i h1 h2 => hb i h1 h2
/-- A row that is there lies below; a block behind leaves it alone. -/
theorem Sl.keepB {b : Nat} {h0 h h' : AH} {a : Option Addr} {vs : List Value} (x : Sl h a vs) (k : KB (· = b) h h') (hb : vs = [] ∨ ∀ i, blk a i → i ≠ b) : Sl h' a vs := by
  rcases hb with e | hb
  · exact .inl e
  · exact x.keep k fun i h1 h2 => hb i h1 h2
theorem sl_below {h : AH} {a : Option Addr} {vs : List Value} (x : Sl h a vs) : vs = [] ∨ ∀ i, blk a i → i < h.length := by
  by_cases e : vs = []
  · exact .inl e
  · exact .inr fun i hi => by
      rcases x with h | ⟨ad, k, h1, h2, _⟩
      · exact absurd h e
      · obtain ⟨ad', e1, e2⟩ := hi
        rw [h1] at e1
        injection e1 with e1
        subst e1; subst e2
        exact hget_lt h2

theorem gate_pos {R : Type} {p : Prop} {x : Option R} (h : p) : gate p x = x := by unfold gate; rw [if_pos h]

theorem bs {α β : Type} {x : Option α} {v : α} (h : x = some v) {f : α → Option β} {r : Option β} (hf : f v = r) : x.bind f = r := by rw [h]; exact hf
theorem ifF {β : Type} {c : Prop} [Decidable c] {a b r : Option β} (h : ¬ c) (hb : b = r) : (if c then a else b) = r := by rw [if_neg h]; exact hb
theorem ifT {β : Type} {c : Prop} [Decidable c] {a b r : Option β} (h : c) (ha : a = r) : (if c then a else b) = r := by rw [if_pos h]; exact ha
theorem jn {T β : Type} {q : T} {k : T → Option β} {r : Option β} (h : k q = r) : joinK (Sum.inl q : Sum T β) k = r := h
theorem bI {β : Type} {k : IntKind} {n : Int} {x : Option Value} (h : x = some (.int k n)) {f : Int → Option β} {r : Option β} (hf : f n = r) : (x.bind (getI k)).bind f = r := by subst h; simpa [getI] using hf
theorem bS {β : Type} {a : Option Addr} {n c : Nat} {x : Option Value} (h : x = some (.slice a n c)) {f : Option Addr × Nat → Option β} {r : Option β} (hf : f (a, n) = r) : (x.bind getS).bind f = r := by subst h; exact hf
theorem bT {β : Type} {s : ByteArray} {x : Option Value} (h : x = some (.string s)) {f : ByteArray → Option β} {r : Option β} (hf : f s = r) : (x.bind getStr).bind f = r := by subst h; exact hf
theorem bB {β : Type} {b : Bool} {x : Option Value} (h : x = some (.bool b)) {f : Bool → Option β} {r : Option β} (hf : f b = r) : (x.bind getB).bind f = r := by subst h; exact hf

theorem nw {base t : Nat} {h : AH} {zs cs : List Value} {β : Type} {f : AH → Option β} {z : Option β} (hb : base ≤ h.length) (hl : cs.length = zs.length) (hf : ∀ y, y = h ++ [some ⟨cs, t⟩] → f y = z) :
    ((some (h ++ [some ⟨zs, t⟩])).bind fun x => (Am.wr base x h.length 0 cs).bind f) = z := by
  have : Am.wr base (h ++ [some ⟨zs, t⟩]) h.length 0 cs = some (h ++ [some ⟨cs, t⟩]) := by
    unfold Am.wr
    rw [if_pos hb, hget_append_new]
    simp only [Option.bind_some]
    rw [if_pos (by simp; omega)]
    have e : setAt zs 0 cs = cs := by unfold setAt; simp [hl]
    rw [e]
    congr 1
    simp [List.set_append]
  simp only [Option.bind_some]
  rw [this]
  exact hf _ rfl
theorem bj {T β : Type} {x : Option (Sum T β)} {k : T → Option β} {r : Option β} (q : T) (h : x = some (.inl q)) (hf : k q = r) : (x.bind fun j => joinK j k) = r := by rw [h]; exact hf
theorem loop_on {b : Body} {s s' : Slots} {h h' : AH} {r : Option (Nat × Slots × AH)} (hb : b s h = some (0, s', h')) (hr : loopL b s' h' = r) : loopL b s h = r := by
  rw [loopL_eq, hb]
  exact hr
theorem loop_off {b : Body} {s s' : Slots} {h h' : AH} {e : Nat} (he : e ≠ 0) (hb : b s h = some (e, s', h')) : loopL b s h = some (e, s', h') := by
  rw [loopL_eq, hb]
  simp only [Option.bind_some]
  rw [if_neg he]

theorem raw_new {h : AH} {cs : List Value} {t : Nat} (hl : cs.all leaf = true) (hn : cs ≠ []) : rawAt (h ++ [some ⟨cs, t⟩]) (some ⟨h.length, 0, none⟩) cs.length = some cs := by
  have hp : cs.length ≠ 0 := fun e => hn (List.eq_nil_of_length_eq_zero e)
  unfold rawAt
  rw [if_neg hp]
  simp only [Option.bind_some, hget_append_new]
  rw [if_pos ⟨by simp, by simpa using hl⟩]
  simp
theorem kN {a b c : AH} (x : KB NoB a b) (y : KB NoB b c) : KB NoB a c := KB.trans x y (fun _ _ h => h) (fun _ _ h => h)
theorem kNB {S : Nat → Prop} {a b c : AH} (x : KB NoB a b) (y : KB S b c) : KB S a c := KB.trans x y (fun _ _ h => h.elim) (fun _ _ h => h)
theorem kFresh {S : Nat → Prop} {a b c : AH} (x : KB NoB a b) (y : KB S b c) (hS : ∀ i, S i → a.length ≤ i) : KB NoB a c := KB.trans x y (fun _ _ h => h) (fun i hi hs => by have := hS i hs; omega)
/-- One entry more, from a box. -/
theorem app1 {base t bytes : Nat} {h : AH} {a : Option Addr} {olds cs : List Value} {n sz : Nat} (x : Own base t h a olds) (hn : olds.length = n * sz) (hc : cs.length = sz) (hsz : 0 < sz) (hlf : cs.all leaf = true) (hb : base ≤ h.length) (h1 : (n + 1) * bytes ≤ 140737488355328) (h2 : n + 1 ≤ 9223372036854775807) :
    ∃ a' h', Am.app base (h ++ [some ⟨cs, t⟩]) t sz bytes a n (rawAt (h ++ [some ⟨cs, t⟩]) (some ⟨h.length, 0, none⟩) (1 * sz)) 1 = some (.slice a' (n + 1) (n + 1), h') ∧ Own base t h' a' (olds ++ cs) ∧ KB (blk a) h h' ∧ (∀ b, blk a' b → b = h.length + 1) ∧ h.length + 1 ≤ h'.length := by
  have hr : rawAt (h ++ [some ⟨cs, t⟩]) (some ⟨h.length, 0, none⟩) (1 * sz) = some cs := by
    rw [Nat.one_mul, ← hc]
    exact raw_new hlf (by intro e; rw [e] at hc; simp at hc; omega)
  obtain ⟨a', h', e, o, k, d⟩ := Own.app (x.keepN (KB.push NoB h (some ⟨cs, t⟩))) (n := n) (m := 1) (sz := sz) (bytes := bytes) hn hsz hr (by simp; omega) h1 h2 (by omega)
  refine ⟨a', h', e, o, kNB (KB.push NoB _ _) k, ?_, by have := k.1; simp at this; omega⟩
  rcases d with ⟨h0, _⟩ | d
  · exact absurd h0 (by decide)
  · intro b hb'
    have := d b hb'
    simpa using this

theorem cell_keep {h h' : AH} (kk : KB NoB h h') {b i : Nat} {v : Value} (g : Am.cell h b i = some v) : Am.cell h' b i = some v := by
  have hbl : b < h.length := by
    have := g
    unfold Am.cell at this
    cases hg : hget h b with
    | none => rw [hg] at this; cases this
    | some b => exact hget_lt hg
  rw [← g]
  unfold Am.cell
  rw [kk.2 b hbl (fun h => h)]
theorem same_keep {h h' : AH} (kk : KB NoB h h') {b i n : Nat} {v : Value} (g : Am.cell h b i = some v) : sameA h h' (some ⟨b, i, none⟩) n := by
  intro x hx
  injection hx with hx
  subst hx
  have hbl : b < h.length := by
    have := g
    unfold Am.cell at this
    cases hg : hget h b with
    | none => rw [hg] at this; cases this
    | some b => exact hget_lt hg
  have e := kk.2 b hbl (fun h => h)
  exact ⟨fun j _ => by unfold Am.cell; rw [e], by rw [e]⟩

theorem wu8 {n : Int} (h0 : 0 ≤ n) (h1 : n ≤ 255) : IntKind.u8.wrap n = n := IntWalk.u8_in n ⟨h0, h1⟩
theorem sl_lt {h : AH} {a : Option Addr} {vs : List Value} (x : Sl h a vs) (hne : vs ≠ []) {b : Nat} (hb : blk a b) : b < h.length := by
  rcases x with e | ⟨ad, k, h1, h2, _⟩
  · exact absurd e hne
  · obtain ⟨ad', e1, e2⟩ := hb
    rw [h1] at e1
    injection e1 with e1
    subst e1; subst e2
    exact hget_lt h2
end Go.Proofs.Ytnmjhhipbfngkaa.Am
