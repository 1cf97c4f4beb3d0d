/- The program's AddTimer.
Conditions: none. -/
import Derived.Test.YtomcfongmahjaaaTfA
import Derived.Test.YtomcfongmahjaaaAd
set_option linter.unusedSimpArgs false
set_option linter.unusedVariables false
namespace Go.Proofs.Ytomcfongmahjaaa.Am
open Go Go.RowKit

/-- A row's block, where it isn't an argument's, is of that type. -/
def TyOk (base : Nat) (h : AH) (a : Option Addr) (t : Nat) : Prop := ∀ ad, a = some ad → ad.block < h.length ∧ (ad.block < base ∨ ∃ k, hget h ad.block = some k ∧ k.ty = t)
theorem TyOk.keep {base t : Nat} {S : Nat → Prop} {h h' : AH} {a : Option Addr} (x : TyOk base h a t) (k : KB S h h') (hS : ∀ b, blk a b → ¬ S b) : TyOk base h' a t := fun ad e => by
  obtain ⟨h1, h2⟩ := x ad e
  refine ⟨Nat.lt_of_lt_of_le h1 k.1, h2.imp id fun ⟨kk, e1, e2⟩ => ⟨kk, ?_, e2⟩⟩
  rw [k.2 _ h1 (hS _ ⟨ad, e, rfl⟩)]
  exact e1
theorem TyOk.keepN {base t : Nat} {h h' : AH} {a : Option Addr} (x : TyOk base h a t) (k : KB NoB h h') : TyOk base h' a t := x.keep k fun _ _ h => h
theorem TyOk.own {base t : Nat} {h : AH} {a : Option Addr} {vs : List Value} (o : Own base t h a vs) : TyOk base h a t := fun ad e => by
  rcases o with ⟨e2, _⟩ | ⟨ad2, k, e1, e2, e3, e4, _⟩
  · rw [e2] at e; cases e
  · rw [e1] at e; injection e with e; subst e
    exact ⟨hget_lt e3, .inr ⟨k, e3, e4⟩⟩
theorem TyOk.ok {base t : Nat} {h : AH} {a : Option Addr} (x : TyOk base h a t) (n : Nat) : okTy base h a t n = true := by
  unfold okTy
  cases a with
  | none => simp
  | some ad =>
    obtain ⟨_, h2⟩ := x ad rfl
    simp only
    rcases h2 with h2 | ⟨k, e1, e2⟩
    · have : Nat.blt ad.block base = true := by rw [Nat.blt_eq]; exact h2
      rw [this]; simp
    · rw [e1]
      subst e2
      simp
theorem TyOk.same0 {base t : Nat} {S : Nat → Prop} {h h' : AH} {a : Option Addr} (x : TyOk base h a t) (k : KB S h h') (hS : ∀ b, blk a b → ¬ S b) : sameA h h' a 0 := fun ad e => by
  refine ⟨fun j hj => absurd hj (Nat.not_lt_zero _), ?_⟩
  rw [k.2 _ (x ad e).1 (hS _ ⟨ad, e, rfl⟩)]
theorem TyOk.ne {base t : Nat} {h : AH} {a : Option Addr} (x : TyOk base h a t) {n : Nat} (hn : h.length ≤ n) : neA a n := fun ad e => by
  have := (x ad e).1
  omega

/-- A part of a row. -/
theorem Sl.part {h : AH} {a : Option Addr} {vs : List Value} (x : Sl h a vs) {n m : Nat} (hnm : n + m ≤ vs.length) : Sl h (shiftA a n) ((vs.drop n).take m) := by
  rcases x with e | ⟨ad, k, e1, e2, e3, e4⟩
  · subst e; exact .inl (by simp)
  · subst e1
    refine .inr ⟨_, k, rfl, e2, by simp; omega, fun i v hi => ?_⟩
    have hlt : i < m := by have := (List.getElem?_eq_some_iff.1 hi).1; simp at this; omega
    rw [List.getElem?_take_of_lt hlt, List.getElem?_drop] at hi
    simp only [Nat.add_assoc]
    exact e4 _ _ hi
theorem SsR.leafs {h : AH} {p : Nat → Prop} {f : Nat} {l : List Sd} {vs : List Value} (hl : vs.length = l.length * 6) (hx : ∀ i x, l[i]? = some x → ∃ cs, (vs.drop (i * 6)).take 6 = .int .i64 x.kind :: .int .i64 x.pid :: cs ∧ TmR h p f x.t cs) : ∀ v ∈ vs, leaf v = true := by
  intro v hv
  obtain ⟨j, hj, rfl⟩ := List.mem_iff_getElem.1 hv
  have hi : j / 6 < l.length := by omega
  obtain ⟨cs, e, hm⟩ := hx (j / 6) _ (List.getElem?_eq_getElem hi)
  have hc : ∃ k n s a m, cs = termV k n s a m := by
    cases f with
    | zero => exact hm.elim
    | succ f =>
      generalize l[j / 6].t = tt at hm
      obtain ⟨k, n, s, ll⟩ := tt
      obtain ⟨a2, rfl, _⟩ := hm.parts
      exact ⟨_, _, _, _, _, rfl⟩
  obtain ⟨k, n, s, a, m, rfl⟩ := hc
  have g : ((vs.drop (j / 6 * 6)).take 6)[j % 6]? = some vs[j] := by
    rw [List.getElem?_take_of_lt (Nat.mod_lt _ (by decide)), List.getElem?_drop, show j / 6 * 6 + j % 6 = j from by omega, List.getElem?_eq_getElem hj]
  rw [e] at g
  have hm6 : j % 6 < 6 := Nat.mod_lt _ (by decide)
  match j % 6, hm6, g with
  | 0, _, g => injection g with g; rw [← g]; rfl
  | 1, _, g => injection g with g; rw [← g]; rfl
  | 2, _, g => injection g with g; rw [← g]; rfl
  | 3, _, g => injection g with g; rw [← g]; rfl
  | 4, _, g => injection g with g; rw [← g]; rfl
  | 5, _, g => injection g with g; rw [← g]; rfl
  | n + 6, h, _ => omega

section
variable {α : Type}
theorem mid_lt {l : List α} {x : α} {K i : Nat} (hK : K ≤ l.length) (hi : i < K) : (l.take K ++ x :: l.drop K)[i]? = l[i]? := by
  rw [List.getElem?_append_left (by simp; omega), List.getElem?_take_of_lt hi]
theorem mid_eq {l : List α} {x : α} {K : Nat} (hK : K ≤ l.length) : (l.take K ++ x :: l.drop K)[K]? = some x := by
  rw [List.getElem?_append_right (by simp; omega), show K - (l.take K).length = 0 from by simp; omega]
  rfl
theorem mid_gt {l : List α} {x : α} {K i : Nat} (hK : K ≤ l.length) (hi : K < i) : (l.take K ++ x :: l.drop K)[i]? = l[i - 1]? := by
  rw [List.getElem?_append_right (by simp; omega), show i - (l.take K).length = (i - 1 - K) + 1 from by simp; omega, List.getElem?_cons_succ, List.getElem?_drop, show K + (i - 1 - K) = i - 1 from by omega]
theorem chunk_mid {vs cs : List Value} {n K : Nat} (hv : vs.length = n * 6) (hc : cs.length = 6) (hK : K ≤ n) (i : Nat) :
    (i < K → chunk 6 i (vs.take (K * 6) ++ cs ++ vs.drop (K * 6)) = chunk 6 i vs) ∧ (i = K → chunk 6 i (vs.take (K * 6) ++ cs ++ vs.drop (K * 6)) = cs) ∧ (K < i → chunk 6 i (vs.take (K * 6) ++ cs ++ vs.drop (K * 6)) = chunk 6 (i - 1) vs) := by
  have e : ∀ j, (vs.take (K * 6) ++ cs ++ vs.drop (K * 6))[j]? = if j < K * 6 then vs[j]? else if j < K * 6 + 6 then cs[j - K * 6]? else vs[j - 6]? := by
    intro j
    have hl : (vs.take (K * 6)).length = K * 6 := by simp; omega
    by_cases h1 : j < K * 6
    · rw [if_pos h1, List.append_assoc, List.getElem?_append_left (by omega), List.getElem?_take_of_lt h1]
    · rw [if_neg h1]
      by_cases h2 : j < K * 6 + 6
      · rw [if_pos h2, List.getElem?_append_left (by simp; omega), List.getElem?_append_right (by omega), hl]
      · rw [if_neg h2, List.getElem?_append_right (by simp; omega), List.getElem?_drop]
        congr 1
        simp
        omega
  refine ⟨fun h => ?_, fun h => ?_, fun h => ?_⟩
  · apply List.ext_getElem?
    intro j
    by_cases hj : j < 6
    · rw [List.getElem?_take_of_lt hj, List.getElem?_take_of_lt hj, List.getElem?_drop, List.getElem?_drop, e, if_pos (by omega)]
    · rw [List.getElem?_eq_none (by simp; omega), List.getElem?_eq_none (by simp; omega)]
  · subst h
    apply List.ext_getElem?
    intro j
    by_cases hj : j < 6
    · rw [List.getElem?_take_of_lt hj, List.getElem?_drop, e, if_neg (by omega), if_pos (by omega), show i * 6 + j - i * 6 = j from by omega]
    · rw [List.getElem?_eq_none (by simp; omega), List.getElem?_eq_none (by omega)]
  · apply List.ext_getElem?
    intro j
    by_cases hj : j < 6
    · rw [List.getElem?_take_of_lt hj, List.getElem?_take_of_lt hj, List.getElem?_drop, List.getElem?_drop, e, if_neg (by omega), if_neg (by omega), show i * 6 + j - 6 = (i - 1) * 6 + j from by omega]
    · rw [List.getElem?_eq_none (by simp; omega), List.getElem?_eq_none (by simp; omega)]
end

/-- Where a timer is put: ahead of the first that is later. -/
def frontT (x : Sd) (l : List Sd) : Nat → Nat → Nat
  | 0, i => i
  | d + 1, i => if (l.getD i d0).kind ≤ x.kind then frontT x l d (i + 1) else i
theorem frontT_spec {x : Sd} {l : List Sd} : ∀ d i, i + d = l.length → i ≤ frontT x l d i ∧ frontT x l d i ≤ l.length ∧ (∀ j (hj : j < l.length), i ≤ j → j < frontT x l d i → l[j].kind ≤ x.kind) ∧ (∀ h : frontT x l d i < l.length, l[frontT x l d i].kind > x.kind)
  | 0, i, h => ⟨Nat.le_refl _, show i ≤ l.length from by omega, fun j hj h1 (h2 : j < i) => by omega, fun (h2 : i < l.length) => by omega⟩
  | d + 1, i, h => by
    have hlt : i < l.length := by omega
    have e : frontT x l (d + 1) i = if l[i].kind ≤ x.kind then frontT x l d (i + 1) else i := by rw [frontT, gD hlt]
    by_cases c : l[i].kind ≤ x.kind
    · rw [if_pos c] at e
      obtain ⟨h1, h2, h3, h4⟩ := frontT_spec (x := x) (l := l) d (i + 1) (by omega)
      simp only [e]
      refine ⟨by omega, h2, fun j hj h5 h6 => ?_, h4⟩
      by_cases ej : j = i
      · subst ej; exact c
      · exact h3 j hj (by omega) h6
    · rw [if_neg c] at e
      simp only [e]
      exact ⟨Nat.le_refl _, by omega, fun j hj h5 h6 => by omega, fun h => by omega⟩
theorem stopT_spec {x : Sd} {l : List Sd} : ∀ k, k ≤ l.length → (∀ j (hj : j < l.length), stopT x l k ≤ j → j < k → l[j].kind > x.kind) ∧ (∀ h : stopT x l k - 1 < l.length, 0 < stopT x l k → ¬ l[stopT x l k - 1].kind > x.kind)
  | 0, _ => ⟨fun j hj h1 h2 => by omega, fun h h1 => by simp only [stopT] at h1; omega⟩
  | k + 1, h => by
    have hlt : k < l.length := by omega
    have e : stopT x l (k + 1) = if l[k].kind > x.kind then stopT x l k else k + 1 := by rw [stopT, gD hlt]
    by_cases c : l[k].kind > x.kind
    · rw [if_pos c] at e
      obtain ⟨h1, h2⟩ := stopT_spec (x := x) (l := l) k (by omega)
      simp only [e]
      refine ⟨fun j hj h3 h4 => ?_, h2⟩
      by_cases ej : j = k
      · subst ej; exact c
      · exact h1 j hj h3 (by omega)
    · rw [if_neg c] at e
      simp only [e]
      exact ⟨fun j hj h3 h4 => by omega, fun h _ => c⟩
theorem front_stop {f : Nat} {x : Sd} {l : List Sd} (ok : tsOk f l = true) : frontT x l l.length 0 = stopT x l l.length := by
  obtain ⟨_, hp, _⟩ := tsOk_iff.1 ok
  rw [List.pairwise_iff_getElem] at hp
  obtain ⟨_, f2, f3, f4⟩ := frontT_spec (x := x) (l := l) l.length 0 (by omega)
  obtain ⟨s1, s2⟩ := stopT_spec (x := x) (l := l) l.length (Nat.le_refl _)
  have s0 := stopT_le x l l.length
  rcases Nat.lt_trichotomy (frontT x l l.length 0) (stopT x l l.length) with c | c | c
  · have h1 : frontT x l l.length 0 < l.length := by omega
    have h2 : stopT x l l.length - 1 < l.length := by omega
    have a := f4 h1
    have b := s2 h2 (by omega)
    rcases Nat.lt_or_ge (frontT x l l.length 0) (stopT x l l.length - 1) with d | d
    · have := hp _ _ h1 h2 d
      omega
    · have e : frontT x l l.length 0 = stopT x l l.length - 1 := by omega
      simp only [e] at a
      omega
  · exact c
  · have h1 : stopT x l l.length < l.length := by omega
    have a := s1 _ h1 (Nat.le_refl _) h1
    have b := f3 _ h1 (Nat.zero_le _) c
    omega

theorem implAdd_loop {base f : Nat} {p : Nat → Prop} {l : List Sd} {x : Sd} {a : Option Addr} {xb : Nat} {k n : Int} {s : ByteArray} {a2 : Option Addr} {m : Nat} {h : AH} (hl : l.length ≤ 1048576) (hs : SsR h p f l a) (o : Own base 29 h (at0 xb) (saidV x.kind x.pid k n s a2 m)) : ∀ (d i : Nat), i + d = l.length →
    loopL (B7_0 base) [some (.slice a l.length l.length), some (.pointer (at0 xb)), some (.int .i64 (i : Int))] h = some (2, [some (.slice a l.length l.length), some (.pointer (at0 xb)), some (.int .i64 ((frontT x l d i : Nat) : Int))], h) := by
  intro d
  induction d with
  | zero =>
    intro i hi
    refine loop_off (by decide) ?_
    rw [B7_0_eq]
    refine bj (q := ([some (.slice a l.length l.length), some (.pointer (at0 xb)), some (.int .i64 (i : Int)), some (.bool false)], h)) (ifF (by simp; omega) rfl) ?_
    exact bS rfl (bs rfl (bI rfl (bB rfl (ifF (by decide) rfl))))
  | succ d ih =>
    intro i hi
    have hlt : i < l.length := by omega
    obtain ⟨ad, kk, nn, ss, a3, m3, rfl, _, g0, _⟩ := hs.get hlt
    rw [frontT, gD hlt]
    by_cases c : l[i].kind ≤ x.kind
    · rw [if_pos c]
      refine loop_on ?_ (ih (i + 1) (by omega))
      rw [B7_0_eq]
      refine bj (q := ([some (.slice (some ad) l.length l.length), some (.pointer (at0 xb)), some (.int .i64 (i : Int)), some (.bool true)], h)) ?_ ?_
      · refine ifT (decide_eq_true (by omega)) (ifT ⟨by omega, by omega⟩ (bs rfl ?_))
        simp only [Int.toNat_natCast]
        exact bI g0 (bI (o.at0 (i := 0) rfl) (by rw [decide_eq_true c]))
      · refine bS rfl (bs rfl (bI rfl (bB rfl (ifT rfl ?_))))
        rw [w64i (n := (i : Int) + 1) (by omega) (by omega)]
        rfl
    · rw [if_neg c]
      refine loop_off (by decide) ?_
      rw [B7_0_eq]
      refine bj (q := ([some (.slice (some ad) l.length l.length), some (.pointer (at0 xb)), some (.int .i64 (i : Int)), some (.bool false)], h)) ?_ ?_
      · refine ifT (decide_eq_true (by omega)) (ifT ⟨by omega, by omega⟩ (bs rfl ?_))
        simp only [Int.toNat_natCast]
        exact bI g0 (bI (o.at0 (i := 0) rfl) (by rw [decide_eq_false c]))
      · exact bS rfl (bs rfl (bI rfl (bB rfl (ifF (by decide) rfl))))
end Go.Proofs.Ytomcfongmahjaaa.Am
