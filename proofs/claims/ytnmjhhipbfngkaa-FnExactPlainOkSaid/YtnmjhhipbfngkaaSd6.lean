/- Rows of what is said: copies of a row; the law on NoRooms.
Conditions: none. -/
import Derived.Test.YtnmjhhipbfngkaaSd5
set_option linter.unusedSimpArgs false
set_option linter.unusedVariables false
namespace Go.Proofs.Ytnmjhhipbfngkaa.Am
open Go Go.RowKit

theorem toSaidS_loop {base f : Nat} {p : Nat → Prop} {l : List Sd} {a : Option Addr} {ob : Nat} (hl : l.length ≤ 1048576) (hB : ∀ x ∈ l, TmB f x.t) (hp : ∀ b, p b → b < ob) : ∀ (d i : Nat) (h : AH) (vs : List Value), i + d = l.length → SsR h p f l a → ob < h.length → base ≤ h.length → Own base 174 h (at0 ob) vs → vs.length = l.length * 6 →
    (∀ j x, j < i → l[j]? = some x → ∃ cs, (vs.drop (j * 6)).take 6 = .int .i64 x.kind :: .int .i64 x.pid :: cs ∧ TmR h (fun b => ob < b) f x.t cs) →
    ∃ h' vs', loopL (B100_0 base) [some (.slice a l.length l.length), some (.slice (at0 ob) l.length l.length), some (.int .i64 (i : Int))] h = some (2, [some (.slice (at0 ob) l.length l.length)], h') ∧ Own base 174 h' (at0 ob) vs' ∧ vs'.length = l.length * 6 ∧
      (∀ j x, l[j]? = some x → ∃ cs, (vs'.drop (j * 6)).take 6 = .int .i64 x.kind :: .int .i64 x.pid :: cs ∧ TmR h' (fun b => ob < b) f x.t cs) ∧ KB (· = ob) h h' := by
  intro d
  induction d with
  | zero =>
    intro i h vs hi hs ho hb ow hv hd
    refine ⟨h, vs, ?_, ow, hv, fun j t hj => hd j t (by have := (List.getElem?_eq_some_iff.1 hj).1; omega) hj, KB.refl _ _⟩
    rw [loopL_eq, B100_0_eq]
    have : ¬ ((i : Int) < (l.length : Int)) := by omega
    simp [this]
  | succ d ihd =>
    intro i h vs hi hs ho hb ow hv hd
    have hlt : i < l.length := by omega
    obtain ⟨ad, k, n, s, a2, m, rfl, hbl, g0, g1, g2, g3, g4, g5, hm⟩ := hs.get hlt
    obtain ⟨k', n', s', a', m', h1, e1, m1, k1⟩ := toSaid_run (base := base) (kind := l[i].kind) (pid := l[i].pid) hm (hB _ (List.getElem_mem hlt)) hb (fun b hbp => by have := hp b hbp; omega)
    have n1 := k1.1
    obtain ⟨h2, w1, w2, w3, w4⟩ := (ow.keepN k1).wr0 (i := i * 6) (new := saidV l[i].kind l[i].pid k' n' s' a' m') (by simp; omega) (by simp)
    have kall : KB (· = ob) h h2 := KB.trans k1 w3 (fun _ _ h => h.elim) (fun _ _ h => h)
    have m2 : TmR h2 (fun b => ob < b) f l[i].t (termV k' n' s' a' m') := TmR.keep w3 (fun b h1 h2 => by omega) _ _ _ (m1.mono (q := fun b => ob < b) (fun b hb' => by omega) _ _ _)
    obtain ⟨h3, vs3, y1, y2, y3, y4, y5⟩ := ihd (i + 1) h2 (setAt vs (i * 6) (saidV l[i].kind l[i].pid k' n' s' a' m')) (by omega) (hs.keep kall fun b h1 h2 => by have := hp b h1; omega) (by omega) (by omega) w2 (by simp [setAt]; omega) (fun j x hj hjt => by
      by_cases hji : j = i
      · subst hji
        rw [chunk6_self rfl (by omega)]
        rw [List.getElem?_eq_getElem hlt] at hjt
        injection hjt with hjt
        subst hjt
        exact ⟨_, rfl, m2⟩
      · rw [chunk6_other rfl (by omega) hji]
        obtain ⟨cs, q1, q2⟩ := hd j x (by omega) hjt
        exact ⟨cs, q1, TmR.keep kall (fun b h1 h2 => by omega) _ _ _ q2⟩)
    refine ⟨h3, vs3, ?_, y2, y3, y4, KB.trans kall y5 (fun _ _ h => h) (fun _ _ h => h)⟩
    have step : B100_0 base [some (.slice (some ad) l.length l.length), some (.slice (at0 ob) l.length l.length), some (.int .i64 (i : Int))] h = some (0, [some (.slice (some ad) l.length l.length), some (.slice (at0 ob) l.length l.length), some (.int .i64 (IntKind.wrap .i64 ((i : Int) + (1 : Int))))], h2) := by
      rw [B100_0_eq]
      refine ifT (decide_eq_true (by omega)) (ifT ⟨by omega, by omega⟩ (bs rfl ?_))
      simp only [Int.toNat_natCast]
      refine bI g0 (bI g1 (bI g2 (bI g3 (bT g4 (bS g5 ?_)))))
      refine bs e1 ?_
      refine bs (v := saidV l[i].kind l[i].pid k' n' s' a' m') rfl (bI rfl (bI rfl (bI rfl (bI rfl (bT rfl (bS rfl ?_))))))
      refine ifT ⟨by omega, by omega⟩ (bs rfl ?_)
      have w1' : Am.wr base h1 ob (0 + i * 6) (saidV l[i].kind l[i].pid k' n' s' a' m') = some h2 := by rw [Nat.zero_add]; exact w1
      exact bs w1' rfl
    rw [loopL_eq, step]
    simp only [Option.bind_some, if_true]
    rw [w64i (by omega) (by omega), show ((i : Int) + 1) = ((i + 1 : Nat) : Int) from by omega]
    exact y1

theorem toSaidS_run {base f : Nat} {h : AH} {p : Nat → Prop} {l : List Sd} {a : Option Addr} (hl : l.length ≤ 1048576) (hB : ∀ x ∈ l, TmB f x.t) (hs : SsR h p f l a) (hb : base ≤ h.length) (hp : ∀ b, p b → b < h.length) :
    ∃ a' h', run (Et base) 100 [.slice a l.length l.length] h = some (.slice a' l.length l.length, h') ∧ SsR h' (fun b => h.length ≤ b) f l a' ∧ KB NoB h h' := by
  obtain ⟨o1, k1, q1⟩ := box_own (base := base) (t := 174) (h := h) (cs := rep [(.int .i64 0), (.int .i64 0), (.int .i64 0), (.int .i64 0), (.string ⟨#[]⟩), (.slice none 0 0)] l.length) hb rfl
  generalize hh1 : h ++ [some (⟨rep [(.int .i64 0), (.int .i64 0), (.int .i64 0), (.int .i64 0), (.string ⟨#[]⟩), (.slice none 0 0)] l.length, 174⟩ : Blk)] = h1 at o1 k1 q1
  obtain ⟨h2, vs2, e2, o2, v2, m2, k2⟩ := toSaidS_loop (base := base) (p := p) (ob := h.length) hl hB hp l.length 0 h1 _ (by omega) (hs.keep k1 fun _ _ h => h) (by omega) (by omega) o1 (rep_len6 ..) (fun j t hj => by omega)
  refine ⟨at0 h.length, h2, r100 ?_, ⟨vs2, o2.sl, .inr fun b hb' => by rw [blk_at0] at hb'; omega, v2, fun i t hi => ?_⟩, KB.trans k1 k2 (fun _ _ h => h) (fun i hi h => by omega)⟩
  · refine ifT ⟨rfl, by omega, by omega, by omega⟩ (lets fun h1' eh => ?_)
    simp only [Int.toNat_natCast] at eh ⊢
    rw [hh1] at eh
    subst eh
    have e2' := e2
    rw [show ((0 : Nat) : Int) = 0 from rfl] at e2'
    exact bs e2' (ifT rfl (bS rfl rfl))
  · obtain ⟨cs, q1, q2⟩ := m2 i t hi
    exact ⟨cs, q1, q2.mono (fun b hb' => by omega) _ _ _⟩

end Go.Proofs.Ytnmjhhipbfngkaa.Am
