/- Rows of what is said, and how many ended for want of room.
Conditions: none. -/
import Derived.Test.YtgigdaijailfkaaAt
set_option linter.unusedSimpArgs false
set_option linter.unusedVariables false
namespace Go.Proofs.Ytgigdaijailfkaa.Am
open Go Go.RowKit

structure Sd where
  kind : Int
  pid : Int
  t : Tm
def SsR (h : AH) (p : Nat → Prop) (f : Nat) (l : List Sd) (a : Option Addr) : Prop :=
  ∃ vs, Sl h a vs ∧ (vs = [] ∨ ∀ b, blk a b → p b) ∧ vs.length = l.length * 6 ∧ ∀ i x, l[i]? = some x → ∃ cs, (vs.drop (i * 6)).take 6 = .int .i64 x.kind :: .int .i64 x.pid :: cs ∧ TmR h p f x.t cs
theorem SsR.keep {h h' : AH} {p S : Nat → Prop} (k : KB S h h') (hp : ∀ b, p b → ¬ S b) {f : Nat} {l : List Sd} {a : Option Addr} (x : SsR h p f l a) : SsR h' p f l a := by
  obtain ⟨vs, h4, h5, h6, h7⟩ := x
  refine ⟨vs, ?_, h5, h6, fun i t hi => ?_⟩
  · rcases h5 with e | h5
    · exact .inl e
    · exact h4.keep k fun b hb hs => hp b (h5 b hb) hs
  · obtain ⟨cs, e, hm⟩ := h7 i t hi
    exact ⟨cs, e, TmR.keep k hp f _ _ hm⟩
theorem SsR.get {h : AH} {p : Nat → Prop} {f : Nat} {l : List Sd} {a : Option Addr} (x : SsR h p f l a) {i : Nat} (hi : i < l.length) :
    ∃ ad k n s a2 m, a = some ad ∧ ad.block < h.length ∧ Am.cell h ad.block (ad.off + i * 6) = some (.int .i64 l[i].kind) ∧ Am.cell h ad.block (ad.off + i * 6 + 1) = some (.int .i64 l[i].pid) ∧ Am.cell h ad.block (ad.off + i * 6 + 1 + 1) = some (.int .i64 k) ∧
      Am.cell h ad.block (ad.off + i * 6 + 1 + 1 + 1) = some (.int .i64 n) ∧ Am.cell h ad.block (ad.off + i * 6 + 1 + 1 + 1 + 1) = some (.string s) ∧ Am.cell h ad.block (ad.off + i * 6 + 1 + 1 + 1 + 1 + 1) = some (.slice a2 m m) ∧ TmR h p f l[i].t (termV k n s a2 m) := by
  obtain ⟨vs, h4, h5, h6, h7⟩ := x
  have hlt : i * 6 + 5 < vs.length := by omega
  obtain ⟨cs, ecs, hm⟩ := h7 i l[i] (List.getElem?_eq_getElem hi)
  cases f with
  | zero => exact hm.elim
  | succ f =>
    generalize ht : l[i].t = tt at hm
    obtain ⟨k, n, s, ll⟩ := tt
    obtain ⟨a2, rfl, _, _, _⟩ := hm.parts
    have each : ∀ (j : Nat) (v : Value), (Value.int .i64 l[i].kind :: .int .i64 l[i].pid :: termV k n s a2 ll.length)[j]? = some v → vs[i * 6 + j]? = some v := by
      intro j v hv
      have hj : j < 6 := by have := (List.getElem?_eq_some_iff.1 hv).1; simpa using this
      rw [← ecs, List.getElem?_take_of_lt hj, List.getElem?_drop] at hv
      exact hv
    rcases h4 with e | ⟨ad, kk, e1, e2, e3, e4⟩
    · subst e; simp at hlt
    · have c : ∀ (j : Nat) (v : Value), (Value.int .i64 l[i].kind :: .int .i64 l[i].pid :: termV k n s a2 ll.length)[j]? = some v → Am.cell h ad.block (ad.off + i * 6 + j) = some v := by
        intro j v hv
        have := e4 _ _ (each j v hv)
        rw [Nat.add_assoc]
        simp [Am.cell, e2, this]
      exact ⟨ad, k, n, s, a2, ll.length, e1, hget_lt e2, c 0 _ rfl, c 1 _ rfl, c 2 _ rfl, c 3 _ rfl, c 4 _ rfl, c 5 _ rfl, hm⟩

def nr : ByteArray := ⟨#[110, 111, 114, 111, 111, 109]⟩
def isNr (x : Sd) : Bool := match x.t with
  | .mk k n s l => (x.kind == 3) && isA k n s l.length nr
def cnt : List Sd → Nat
  | [] => 0
  | x :: r => (if isNr x then 1 else 0) + cnt r
theorem cnt_le : ∀ l, cnt l ≤ l.length
  | [] => Nat.le_refl _
  | x :: r => by simp only [cnt, List.length_cons]; have := cnt_le r; split <;> omega

theorem specNoRooms_loop {base f : Nat} {p : Nat → Prop} {l : List Sd} {a : Option Addr} (hl : l.length ≤ 1048576) : ∀ (d i : Nat) (h : AH) (c : Nat), i + d = l.length → c ≤ i → SsR h p f l a → base ≤ h.length →
    ∃ h', loopL (B35_0 base) [some (.slice a l.length l.length), some (.int .i64 (c : Int)), some (.int .i64 (i : Int))] h = some (2, [some (.int .i64 ((c + cnt (l.drop i) : Nat) : Int))], h') ∧ KB NoB h h' := by
  intro d
  induction d with
  | zero =>
    intro i h c hi hc hs hb
    refine ⟨h, ?_, KB.refl _ _⟩
    rw [loopL_eq, B35_0_eq, List.drop_of_length_le (by omega)]
    have : ¬ ((i : Int) < (l.length : Int)) := by omega
    simp [this, cnt]
  | succ d ihd =>
    intro i h c hi hc hs hb
    have hlt : i < l.length := by omega
    obtain ⟨ad, k, n, s, a2, m, rfl, hbl, g0, g1, g2, g3, g4, g5, hm⟩ := hs.get hlt
    have hdrop : l.drop i = l[i] :: l.drop (i + 1) := List.drop_eq_getElem_cons hlt
    have hnr : isNr l[i] = ((l[i].kind == 3) && isA k n s m nr) := by
      cases f with
      | zero => exact hm.elim
      | succ f =>
        unfold isNr
        generalize l[i].t = tt at hm
        obtain ⟨k', n', s', ll⟩ := tt
        obtain ⟨a3, e, _⟩ := hm.parts
        injection e with e0 e
        injection e with e1 e
        injection e with e2 e
        injection e with e3 _
        injection e0 with _ e0
        injection e1 with _ e1
        injection e2 with e2
        injection e3 with _ e3 _
        subst e0; subst e1; subst e2; subst e3
        rfl
    -- one round
    have round : ∃ h1, KB NoB h h1 ∧ B35_0 base [some (.slice (some ad) l.length l.length), some (.int .i64 (c : Int)), some (.int .i64 (i : Int))] h = some (0, [some (.slice (some ad) l.length l.length), some (.int .i64 ((c + (if isNr l[i] then 1 else 0) : Nat) : Int)), some (.int .i64 ((i + 1 : Nat) : Int))], h1) := by
      obtain ⟨h1, e1, k1⟩ := l9Atom_run (base := base) (w := nr) hb
      obtain ⟨h2, e2, k2⟩ := specSameAtom_run (base := base) (k := k) (n := n) (s := s) (w := nr) (a := a2) (m := m) (by have := k1.1; omega : base ≤ h1.length)
      have fin : ∀ (b : Bool) (hh : AH), (((if b = true then
          some (Sum.inl ([some (Value.slice (some ad) l.length l.length), some (.int .i64 (IntKind.wrap .i64 ((c : Int) + (1 : Int)))), some (.int .i64 (i : Int))], hh))
          else
          some (.inl ([some (.slice (some ad) l.length l.length), some (.int .i64 (c : Int)), some (.int .i64 (i : Int))], hh))) : Option (Sum (Slots × AH) (Nat × Slots × AH)))) = some (.inl ([some (.slice (some ad) l.length l.length), some (.int .i64 ((c + (if b then 1 else 0) : Nat) : Int)), some (.int .i64 (i : Int))], hh)) := by
        intro b hh
        cases b with
        | true => rw [if_pos rfl, w64i (by omega) (by omega)]; simp
        | false => rw [if_neg (by decide)]; simp
      by_cases hk : (l[i].kind == (3 : Int)) = true
      · refine ⟨h2, KB.trans k1 k2 (fun _ _ h => h) (fun _ _ h => h), ?_⟩
        rw [B35_0_eq, hnr, hk, Bool.true_and]
        refine ifT (decide_eq_true (by omega)) ?_
        refine bs (v := .inl ([some (.slice (some ad) l.length l.length), some (.int .i64 ((c + (if isA k n s m nr then 1 else 0) : Nat) : Int)), some (.int .i64 (i : Int))], h2)) ?_ ?_
        · refine bs (v := .inl ([some (.slice (some ad) l.length l.length), some (.int .i64 (c : Int)), some (.int .i64 (i : Int)), some (.bool (isA k n s m nr))], h2)) ?_ ?_
          · refine ifT ⟨by omega, by omega⟩ (bs rfl ?_)
            simp only [Int.toNat_natCast]
            refine bI (by simpa using g0) (ifT hk (ifT ⟨by omega, by omega⟩ (bs rfl ?_)))
            refine bI g2 (bI g3 (bT g4 (bS g5 ?_)))
            refine bs e1 (bs (v := termV 2 0 nr none 0) rfl (bI rfl (bI rfl (bT rfl (bS rfl ?_)))))
            refine (gate_pos (fun ad' had => ?_)).trans (bs e2 (bB rfl rfl))
            injection had with had
            subst had
            have hkk : hget h1 ad.block = hget h ad.block := k1.2 _ hbl (fun h => h)
            exact ⟨fun j hj => by simp only [Am.cell, hkk], by rw [hkk]⟩
          · exact jn (bS rfl (bI rfl (bI rfl (bB rfl (fin _ _)))))
        · refine jn (bS rfl (bI rfl (bI rfl ?_)))
          rw [w64i (by omega) (by omega)]
          rfl
      · have hk' : (l[i].kind == (3 : Int)) = false := by simpa using hk
        refine ⟨h, KB.refl _ _, ?_⟩
        rw [B35_0_eq, hnr, hk', Bool.false_and]
        refine ifT (decide_eq_true (by omega)) ?_
        refine bs (v := .inl ([some (.slice (some ad) l.length l.length), some (.int .i64 ((c + (if false then 1 else 0) : Nat) : Int)), some (.int .i64 (i : Int))], h)) ?_ ?_
        · refine bs (v := .inl ([some (.slice (some ad) l.length l.length), some (.int .i64 (c : Int)), some (.int .i64 (i : Int)), some (.bool false)], h)) ?_ ?_
          · refine ifT ⟨by omega, by omega⟩ (bs rfl ?_)
            simp only [Int.toNat_natCast]
            exact bI (by simpa using g0) (ifF hk rfl)
          · exact jn (bS rfl (bI rfl (bI rfl (bB rfl (fin _ _)))))
        · refine jn (bS rfl (bI rfl (bI rfl ?_)))
          rw [w64i (by omega) (by omega)]
          rfl
    obtain ⟨h1, k1, e1⟩ := round
    obtain ⟨h2, e2, k2⟩ := ihd (i + 1) h1 (c + (if isNr l[i] then 1 else 0)) (by omega) (by split <;> omega) (hs.keep k1 fun _ _ h => h) (by have := k1.1; omega)
    refine ⟨h2, ?_, KB.trans k1 k2 (fun _ _ h => h) (fun _ _ h => h)⟩
    rw [loopL_eq, e1]
    simp only [Option.bind_some, if_true]
    rw [e2, hdrop]
    simp only [cnt, Nat.add_assoc]

theorem specNoRooms_run {base f : Nat} {p : Nat → Prop} {h : AH} {l : List Sd} {a : Option Addr} (hl : l.length ≤ 1048576) (hs : SsR h p f l a) (hb : base ≤ h.length) :
    ∃ h', run (Et base) 35 [.slice a l.length l.length] h = some (.int .i64 ((cnt l : Nat) : Int), h') ∧ KB NoB h h' := by
  obtain ⟨h', e, k⟩ := specNoRooms_loop (base := base) hl l.length 0 h 0 (by omega) (by omega) hs hb
  refine ⟨h', r35 ?_, k⟩
  rw [show ((0 : Nat) : Int) = 0 from rfl, List.drop_zero, Nat.zero_add] at e
  exact bs e (ifT rfl (bI rfl rfl))
end Go.Proofs.Ytgigdaijailfkaa.Am
