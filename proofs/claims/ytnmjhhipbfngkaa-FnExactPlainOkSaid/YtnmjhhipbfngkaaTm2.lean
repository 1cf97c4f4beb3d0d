/- Terms: copies.
Conditions: none. -/
import Derived.Test.YtnmjhhipbfngkaaRw
set_option linter.unusedSimpArgs false
set_option linter.unusedVariables false
namespace Go.Proofs.Ytnmjhhipbfngkaa.Am
open Go Go.RowKit

theorem chunk_self {vs cs : List Value} {i : Nat} (hc : cs.length = 4) (hi : i * 4 + 4 ≤ vs.length) : ((setAt vs (i * 4) cs).drop (i * 4)).take 4 = cs := by
  apply List.ext_getElem?
  intro j
  by_cases hj : j < 4
  · rw [List.getElem?_take_of_lt hj, List.getElem?_drop, setAt_get (by omega), if_pos (by omega), show i * 4 + j - i * 4 = j from by omega]
  · rw [List.getElem?_eq_none (by simp; omega), List.getElem?_eq_none (by omega)]
theorem chunk_other {vs cs : List Value} {i j : Nat} (hc : cs.length = 4) (hi : i * 4 + 4 ≤ vs.length) (hne : j ≠ i) : ((setAt vs (i * 4) cs).drop (j * 4)).take 4 = (vs.drop (j * 4)).take 4 := by
  apply List.ext_getElem?
  intro k
  by_cases hk : k < 4
  · rw [List.getElem?_take_of_lt hk, List.getElem?_take_of_lt hk, List.getElem?_drop, List.getElem?_drop, setAt_get (by omega), if_neg (by omega)]
  · rw [List.getElem?_eq_none (by simp; omega), List.getElem?_eq_none (by simp; omega)]

/-- A term's copy: all its rows are its own. -/
def ToTD (base f : Nat) : Prop := ∀ (h : AH) (p : Nat → Prop) (t : Tm) (cs : List Value), TmR h p f t cs → TmB f t → base ≤ h.length → (∀ b, p b → b < h.length) →
  ∃ cs' h', run (Et base) 13 [.agg cs.toArray] h = some (.agg cs'.toArray, h') ∧ TmD f (iS h.length h'.length) h' t cs' ∧ KB NoB h h'

theorem toTermSD_loop {base f : Nat} (ih : ToTD base f) {p : Nat → Prop} {l : List Tm} {a : Option Addr} {ob : Nat} (hl : l.length ≤ 1048576) (hB : ∀ t ∈ l, TmB f t) (hp : ∀ b, p b → b < ob) : ∀ (d i : Nat) (h : AH) (vs : List Value), i + d = l.length → TsR h p f l a → ob < h.length → base ≤ h.length → Own base 32 h (at0 ob) vs → vs.length = l.length * 4 →
    Chunks 4 (TmD f) (iS (ob + 1) h.length) h (l.take i) vs →
    ∃ h' vs', loopL (B66_0 base) [some (.slice a l.length l.length), some (.slice (at0 ob) l.length l.length), some (.int .i64 (i : Int))] h = some (2, [some (.slice (at0 ob) l.length l.length)], h') ∧ Own base 32 h' (at0 ob) vs' ∧ vs'.length = l.length * 4 ∧
      Chunks 4 (TmD f) (iS (ob + 1) h'.length) h' l vs' ∧ KB (· = ob) h h' := by
  intro d
  induction d with
  | zero =>
    intro i h vs hi hs ho hb ow hv hd
    rw [List.take_of_length_le (by omega)] at hd
    refine ⟨h, vs, ?_, ow, hv, hd, KB.refl _ _⟩
    rw [loopL_eq, B66_0_eq]
    have : ¬ ((i : Int) < (l.length : Int)) := by omega
    simp [this]
  | succ d ihd =>
    intro i h vs hi hs ho hb ow hv hd
    have hlt : i < l.length := by omega
    obtain ⟨ad, c0, c1, c2, c3, rfl, g0, g1, g2, g3, hm⟩ := hs.get hlt
    obtain ⟨cs', h1, e1, m1, k1⟩ := ih h p l[i] _ hm (hB _ (List.getElem_mem hlt)) hb (fun b hbp => by have := hp b hbp; omega)
    have n1 := k1.1
    cases f with
    | zero => exact hm.elim
    | succ f =>
      have hm1 := m1
      generalize ht : l[i] = tt at hm hm1
      obtain ⟨k, n, s, ll⟩ := tt
      obtain ⟨a2, ecs, _, _, _⟩ := hm.parts
      injection ecs with q0 ecs
      injection ecs with q1 ecs
      injection ecs with q2 ecs
      injection ecs with q3 _
      subst q0; subst q1; subst q2; subst q3
      obtain ⟨_, _, a3, ecs', _⟩ := hm1
      have hc4 : cs'.length = 4 := by rw [ecs']; rfl
      obtain ⟨h2, w1, w2, w3, w4⟩ := (ow.keepN k1).wr0 (i := i * 4) (new := cs') (by omega) (by omega)
      have kall : KB (· = ob) h h2 := KB.trans k1 w3 (fun _ _ h => h.elim) (fun _ _ h => h)
      have m2 := TmD.kp _ _ _ _ _ _ _ w3 (fun b (hb' : iS h.length h1.length b) e => by omega) m1
      have ch := (hd.keep (TmD.kp _) kall fun b hb' e => by omega).snoc (vs' := setAt vs (i * 4) cs') (S' := iS (ob + 1) h2.length) m2 (fun b hb' hc => by omega) (fun b hb' => by constructor <;> omega) (fun b hb' => by constructor <;> omega) (fun q hq => chunk_setAt_other hc4 (by omega) (by simp at hq; omega)) (by
        rw [List.length_take, Nat.min_eq_left (by omega)]
        exact chunk_setAt_self hc4 (by omega))
      rw [← take_snoc hlt] at ch
      obtain ⟨h3, vs3, y1, y2, y3, y4, y5⟩ := ihd (i + 1) h2 (setAt vs (i * 4) cs') (by omega) (hs.keep kall fun b h1 h2 => by have := hp b h1; omega) (by omega) (by omega) w2 (by simp [setAt]; omega) ch
      refine ⟨h3, vs3, ?_, y2, y3, y4, KB.trans kall y5 (fun _ _ h => h) (fun _ _ h => h)⟩
      have step : B66_0 base [some (.slice (some ad) l.length l.length), some (.slice (at0 ob) l.length l.length), some (.int .i64 (i : Int))] h = some (0, [some (.slice (some ad) l.length l.length), some (.slice (at0 ob) l.length l.length), some (.int .i64 (IntKind.wrap .i64 ((i : Int) + (1 : Int))))], h2) := by
        rw [B66_0_eq]
        refine ifT (decide_eq_true (by omega)) (ifT ⟨by omega, by omega⟩ (bs rfl ?_))
        simp only [Int.toNat_natCast]
        refine bI g0 (bI g1 (bT g2 (bS g3 ?_)))
        refine bs e1 ?_
        subst ecs'
        refine bs (v := termV k n s a3 ll.length) rfl (bI rfl (bI rfl (bT rfl (bS rfl ?_))))
        refine ifT ⟨by omega, by omega⟩ (bs rfl ?_)
        have w1' : Am.wr base h1 ob (0 + i * 4) (termV k n s a3 ll.length) = some h2 := by rw [Nat.zero_add]; exact w1
        exact bs w1' rfl
      rw [loopL_eq, step]
      simp only [Option.bind_some, if_true]
      rw [w64i (by omega) (by omega), show ((i : Int) + 1) = ((i + 1 : Nat) : Int) from by omega]
      exact y1

theorem rep_len4 (z0 z1 z2 z3 : Value) : ∀ n, (rep [z0, z1, z2, z3] n).length = n * 4
  | 0 => rfl
  | n + 1 => by simp only [rep, List.length_append, rep_len4 z0 z1 z2 z3 n]; simp; omega

theorem toTermSD_run {base f : Nat} (ih : ToTD base f) {h : AH} {p : Nat → Prop} {l : List Tm} {a : Option Addr} (hl : l.length ≤ 1048576) (hB : ∀ t ∈ l, TmB f t) (hs : TsR h p f l a) (hb : base ≤ h.length) (hp : ∀ b, p b → b < h.length) :
    ∃ a' h', run (Et base) 66 [.slice a l.length l.length] h = some (.slice a' l.length l.length, h') ∧ RowD 4 (TmD f) (iS h.length h'.length) h' l a' ∧ KB NoB h h' := by
  obtain ⟨o1, k1, q1⟩ := box_own (base := base) (t := 32) (h := h) (cs := rep [(.int .i64 0), (.int .i64 0), (.string ⟨#[]⟩), (.slice none 0 0)] l.length) hb rfl
  generalize hh1 : h ++ [some (⟨rep [(.int .i64 0), (.int .i64 0), (.string ⟨#[]⟩), (.slice none 0 0)] l.length, 32⟩ : Blk)] = h1 at o1 k1 q1
  obtain ⟨h2, vs2, e2, o2, v2, m2, k2⟩ := toTermSD_loop (base := base) ih (p := p) (ob := h.length) hl hB hp l.length 0 h1 _ (by omega) (hs.keep k1 fun _ _ h => h) (by omega) (by omega) o1 (rep_len4 ..) Chunks.nil
  have n2 := k2.1
  refine ⟨at0 h.length, h2, r66 ?_, ⟨vs2, iS (h.length + 1) h2.length, o2.sl, v2, .inr fun b hb' => by rw [blk_at0] at hb'; subst hb'; exact ⟨by constructor <;> omega, by omega⟩, fun b hb' => by constructor <;> omega, m2⟩, KB.trans k1 k2 (fun _ _ h => h) (fun i hi h => by omega)⟩
  refine ifT ⟨rfl, by omega, by omega, by omega⟩ (lets fun h1' eh => ?_)
  simp only [Int.toNat_natCast] at eh ⊢
  rw [hh1] at eh
  subst eh
  have e2' := e2
  rw [show ((0 : Nat) : Int) = 0 from rfl] at e2'
  exact bs e2' (ifT rfl (bS rfl rfl))

theorem toTermD_run {base : Nat} : ∀ f, ToTD base f
  | 0 => fun h p t cs x => x.elim
  | f + 1 => fun h p t cs x hB hb hp => by
    obtain ⟨k, n, s, l⟩ := t
    obtain ⟨a, rfl, hts, hs, hl⟩ := x.parts
    obtain ⟨b1, b2, b3⟩ := hB
    obtain ⟨o1, k1, q1⟩ := box_own (base := base) (t := 24) (h := h) (cs := termV k n s a l.length) hb rfl
    generalize hh1 : h ++ [some (⟨termV k n s a l.length, 24⟩ : Blk)] = h1 at o1 k1 q1
    obtain ⟨o2, k2, q2⟩ := box_own (base := base) (t := 32) (h := h1) (cs := termV 0 0 ⟨#[]⟩ none 0) (by omega) rfl
    generalize hh2 : h1 ++ [some (⟨termV 0 0 ⟨#[]⟩ none 0, 32⟩ : Blk)] = h2 at o2 k2 q2
    obtain ⟨o3, k3, q3⟩ := box_own (base := base) (t := 32) (h := h2) (cs := termV 0 0 ⟨#[]⟩ none 0) (by omega) rfl
    generalize hh3 : h2 ++ [some (⟨termV 0 0 ⟨#[]⟩ none 0, 32⟩ : Blk)] = h3 at o3 k3 q3
    have k03 : KB NoB h h3 := KB.trans (KB.trans k1 k2 (fun _ _ h => h) (fun _ _ h => h)) k3 (fun _ _ h => h) (fun _ _ h => h)
    have a3 := (o1.keepN k2).keepN k3
    have z3 := o2.keepN k3
    obtain ⟨h5, e5, o5, k5, l5⟩ := o3.wr0 (i := 0) (new := [.int .i64 k]) (by simp) (by simp)
    have a5 := a3.keepB k5 fun i hi => by rw [blk_at0] at hi; omega
    have z5 := z3.keepB k5 fun i hi => by rw [blk_at0] at hi; omega
    obtain ⟨h7, e7, o7, k7, l7⟩ := o5.wr0 (i := 1) (new := [.int .i64 n]) (by simp [setAt]) (by simp)
    have a7 := a5.keepB k7 fun i hi => by rw [blk_at0] at hi; omega
    have z7 := z5.keepB k7 fun i hi => by rw [blk_at0] at hi; omega
    obtain ⟨h9, e9, o9, k9, l9⟩ := o7.wr0 (i := 2) (new := [.string s]) (by simp [setAt]) (by simp)
    have a9 := a7.keepB k9 fun i hi => by rw [blk_at0] at hi; omega
    have z9 := z7.keepB k9 fun i hi => by rw [blk_at0] at hi; omega
    have s9 : TsR h9 p f l a := (((hts.keep k03 fun _ _ h => h).keep k5 fun b h1 h2 => by have := hp b h1; omega).keep k7 fun b h1 h2 => by have := hp b h1; omega).keep k9 fun b h1 h2 => by have := hp b h1; omega
    obtain ⟨a', h11, e11, t11, k11⟩ := toTermSD_run (base := base) (toTermD_run f) b2 b3 s9 (by omega) (fun b hbp => by have := hp b hbp; omega)
    have n11 := k11.1
    obtain ⟨h13, e13, o13, k13, l13⟩ := (o9.keepN k11).wr0 (i := 3) (new := [.slice a' l.length l.length]) (by simp [setAt]) (by simp)
    have z13 := (z9.keepN k11).keepB k13 fun i hi => by rw [blk_at0] at hi; omega
    have t13 := t11.keep (TmD.kp _) k13 fun b h1 h2 => by omega
    have hout : setAt (setAt (setAt (setAt (termV 0 0 ⟨#[]⟩ none 0) 0 [.int .i64 k]) 1 [.int .i64 n]) 2 [.string s]) 3 [.slice a' l.length l.length] = termV k n s a' l.length := rfl
    rw [hout] at o13
    obtain ⟨h18, e18, z18, k18, l18⟩ := z13.wr0 (i := 0) (new := termV k n s a' l.length) (by simp) (by simp)
    have hz : setAt (termV 0 0 ⟨#[]⟩ none 0) 0 (termV k n s a' l.length) = termV k n s a' l.length := rfl
    rw [hz] at z18
    have t18 := t13.keep (TmD.kp _) k18 fun b h1 h2 => by omega
    have c1 : ∀ {S : Nat → Prop} {x y : AH}, KB NoB h x → KB S x y → (∀ i, S i → h.length ≤ i) → KB NoB h y := fun u v hS => KB.trans u v (fun _ _ h => h) (fun i hi hs => by have := hS i hs; omega)
    have kAll : KB NoB h h18 := by
      refine c1 (c1 (c1 (c1 (c1 (c1 k03 k5 ?_) k7 ?_) k9 ?_) k11 ?_) k13 ?_) k18 ?_ <;> (intro i hi; first | exact hi.elim | omega)
    refine ⟨termV k n s a' l.length, h18, r13 (lets fun h1' eh => ?_), ⟨hs, hl, a', rfl, t18.mono fun b hb' => by constructor <;> omega⟩, kAll⟩
    rw [hh1] at eh
    subst eh
    refine lets fun h2' eh => ?_
    rw [hh2] at eh
    subst eh
    refine lets fun h3' eh => ?_
    rw [hh3] at eh
    subst eh
    refine bI (a3.at0 (i := 0) rfl) (bs e5 (bI (a5.at0 (i := 1) rfl) (bs e7 (bT (a7.at0 (i := 2) rfl) (bs e9 (bS (a9.at0 (i := 3) rfl) (bs e11 (bS rfl (bs e13 ?_)))))))))
    refine bI (o13.at0 (i := 0) rfl) (bI (o13.at0 (i := 1) rfl) (bT (o13.at0 (i := 2) rfl) (bS (o13.at0 (i := 3) rfl) (bs e18 ?_))))
    exact bI (z18.at0 (i := 0) rfl) (bI (z18.at0 (i := 1) rfl) (bT (z18.at0 (i := 2) rfl) (bS (z18.at0 (i := 3) rfl) rfl)))

/-- A term's copy. -/
def ToT (base f : Nat) : Prop := ∀ (h : AH) (p : Nat → Prop) (t : Tm) (cs : List Value), TmR h p f t cs → TmB f t → base ≤ h.length → (∀ b, p b → b < h.length) →
  ∃ cs' h', run (Et base) 13 [.agg cs.toArray] h = some (.agg cs'.toArray, h') ∧ TmR h' (fun b => h.length ≤ b) f t cs' ∧ KB NoB h h'
theorem toTerm_run {base : Nat} (f : Nat) : ToT base f := fun h p t cs x hB hb hp => by
  obtain ⟨cs', h', e, m, k⟩ := toTermD_run f h p t cs x hB hb hp
  exact ⟨cs', h', e, (TmD.tmR _ _ _ _ _ m).mono (fun b hb' => hb'.1) _ _ _, k⟩
end Go.Proofs.Ytnmjhhipbfngkaa.Am
