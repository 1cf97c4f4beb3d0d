/- The reference's AddTimer.
Conditions: none. -/
import Derived.Test.YtomcfongmahjaaaLc
set_option linter.unusedSimpArgs false
set_option linter.unusedVariables false
namespace Go.Proofs.Ytomcfongmahjaaa.Am
open Go Go.RowKit

/-- A row of timers that is one's own; what lies below, in q, may be shared. -/
def SsO (base : Nat) (h : AH) (q : Nat → Prop) (f : Nat) (l : List Sd) (a : Option Addr) : Prop :=
  ∃ vs, Own base 29 h a vs ∧ (∀ b, blk a b → ¬ q b) ∧ vs.length = l.length * 6 ∧ ∀ i x, l[i]? = some x → ∃ k n s a2 m, chunk 6 i vs = saidV x.kind x.pid k n s a2 m ∧ TmR h q f x.t (termV k n s a2 m)
theorem SsO.ssR {base : Nat} {h : AH} {q : Nat → Prop} {f : Nat} {l : List Sd} {a : Option Addr} (x : SsO base h q f l a) : SsR h (fun b => q b ∨ blk a b) f l a := by
  obtain ⟨vs, o, hp, hl, hx⟩ := x
  exact ⟨vs, o.sl, .inr fun b hb => .inr hb, hl, fun i y hy => by obtain ⟨k, n, s, a2, m, e, t⟩ := hx i y hy; exact ⟨_, e, t.mono (fun b hb => .inl hb) _ _ _⟩⟩
theorem SsO.lt {base : Nat} {h : AH} {q : Nat → Prop} {f : Nat} {l : List Sd} {a : Option Addr} (x : SsO base h q f l a) : ∀ b, blk a b → base ≤ b ∧ b < h.length := by
  obtain ⟨vs, o, _⟩ := x
  exact fun b hb => o.lt hb
theorem SsO.keep {base : Nat} {h h' : AH} {q U : Nat → Prop} {f : Nat} {l : List Sd} {a : Option Addr} (x : SsO base h q f l a) (k : KB U h h') (hU : ∀ b, U b → ¬ (q b ∨ blk a b)) : SsO base h' q f l a := by
  obtain ⟨vs, o, hp, hl, hx⟩ := x
  exact ⟨vs, o.keep k fun b hb hu => hU b hu (.inr hb), hp, hl, fun i y hy => by obtain ⟨k1, n, s, a2, m, e, t⟩ := hx i y hy; exact ⟨k1, n, s, a2, m, e, TmR.keep k (fun b hb hu => hU b hu (.inl hb)) _ _ _ t⟩⟩
theorem SsO.keepN {base : Nat} {h h' : AH} {q : Nat → Prop} {f : Nat} {l : List Sd} {a : Option Addr} (x : SsO base h q f l a) (k : KB NoB h h') : SsO base h' q f l a := x.keep k fun _ h => h.elim
theorem SsO.mono {base : Nat} {h : AH} {q r : Nat → Prop} {f : Nat} {l : List Sd} {a : Option Addr} (x : SsO base h q f l a) (hq : ∀ b, q b → r b) (hr : ∀ b, blk a b → ¬ r b) : SsO base h r f l a := by
  obtain ⟨vs, o, hp, hl, hx⟩ := x
  exact ⟨vs, o, hr, hl, fun i y hy => by obtain ⟨k1, n, s, a2, m, e, t⟩ := hx i y hy; exact ⟨k1, n, s, a2, m, e, TmR.mono hq _ _ _ t⟩⟩
theorem SsO.nil {base : Nat} {h : AH} {q : Nat → Prop} {f : Nat} {a : Option Addr} (o : Own base 29 h a []) (hp : ∀ b, blk a b → ¬ q b) : SsO base h q f [] a := ⟨[], o, hp, by simp, fun i x hx => by simp at hx⟩
/-- One more, from a box. -/
theorem SsO.snoc {base : Nat} {h : AH} {q : Nat → Prop} {f : Nat} {l : List Sd} {a : Option Addr} (x : SsO base h q f l a) {y : Sd} {k n : Int} {s : ByteArray} {a2 : Option Addr} {m : Nat} (t : TmR h q f y.t (termV k n s a2 m)) (hb : base ≤ h.length) (hq : ∀ b, q b → b < h.length) (hl : l.length ≤ 1048576) :
    ∃ a' h', Am.app base (h ++ [some ⟨saidV y.kind y.pid k n s a2 m, 29⟩]) 29 6 72 a l.length (rawAt (h ++ [some ⟨saidV y.kind y.pid k n s a2 m, 29⟩]) (some ⟨h.length, 0, none⟩) (1 * 6)) 1 = some (.slice a' (l.length + 1) (l.length + 1), h') ∧ SsO base h' q f (l ++ [y]) a' ∧ KB (blk a) h h' ∧ (∀ b, blk a' b → b = h.length + 1) ∧ h.length + 1 ≤ h'.length := by
  obtain ⟨vs, o, hp, hvl, hx⟩ := x
  obtain ⟨a5, h5, e5, o5, k5, b5, n5⟩ := app1 (bytes := 72) o (n := l.length) (sz := 6) (cs := saidV y.kind y.pid k n s a2 m) hvl rfl (by decide) rfl hb (by omega) (by omega)
  refine ⟨a5, h5, e5, ⟨_, o5, fun b hb' hqb => by have := b5 b hb'; have := hq b hqb; omega, by simp; omega, fun i z hz => ?_⟩, k5, b5, n5⟩
  have hlt : i < l.length + 1 := by have := (List.getElem?_eq_some_iff.1 hz).1; simpa using this
  by_cases e : i = l.length
  · subst e
    simp at hz
    subst hz
    exact ⟨k, n, s, a2, m, chunk_app_self rfl hvl, TmR.keep k5 (fun b hb' hu => hp b hu hb') _ _ _ t⟩
  · have hi : i < l.length := by omega
    rw [List.getElem?_append_left hi] at hz
    obtain ⟨k1, n1, s1, a1, m1, e1, t1⟩ := hx i z hz
    exact ⟨k1, n1, s1, a1, m1, (chunk_app_other (by have := mul_le' (w := 6) hi; omega)).trans e1, TmR.keep k5 (fun b hb' hu => hp b hu hb') _ _ _ t1⟩
/-- One put in another's place. -/
theorem SsO.set {base : Nat} {h : AH} {q : Nat → Prop} {f : Nat} {l : List Sd} {a : Option Addr} (x : SsO base h q f l a) {y : Sd} {k n : Int} {s : ByteArray} {a2 : Option Addr} {m : Nat} (t : TmR h q f y.t (termV k n s a2 m)) {i : Nat} (hi : i < l.length) :
    ∃ ad h', a = some ad ∧ Am.wr base h ad.block (ad.off + i * 6) (saidV y.kind y.pid k n s a2 m) = some h' ∧ SsO base h' q f (l.set i y) a ∧ KB (blk a) h h' ∧ h'.length = h.length := by
  obtain ⟨vs, o, hp, hvl, hx⟩ := x
  have hle := mul_le' (w := 6) hi
  obtain ⟨ad, h', e, w, o', k', l'⟩ := o.wr (i := i * 6) (new := saidV y.kind y.pid k n s a2 m) (by simp; omega) (by simp)
  refine ⟨ad, h', e, w, ⟨_, o', hp, by simp [setAt]; omega, fun j z hz => ?_⟩, k', l'⟩
  by_cases e : j = i
  · subst e
    rw [List.getElem?_set_self hi] at hz
    injection hz with hz
    subst hz
    exact ⟨k, n, s, a2, m, chunk_setAt_self rfl (by omega), TmR.keep k' (fun b hb' hu => hp b hu hb') _ _ _ t⟩
  · rw [List.getElem?_set_ne (by omega)] at hz
    obtain ⟨k1, n1, s1, a1, m1, e1, t1⟩ := hx j z hz
    exact ⟨k1, n1, s1, a1, m1, (chunk_setAt_other (w := 6) (cs := saidV y.kind y.pid k n s a2 m) rfl (by omega) e).trans e1, TmR.keep k' (fun b hb' hu => hp b hu hb') _ _ _ t1⟩

theorem l14CopyO_run {base f : Nat} {h : AH} {p : Nat → Prop} {l : List Sd} {a : Option Addr} (hl : l.length ≤ 1048576) (hB : ∀ x ∈ l, TmB f x.t) (hs : SsR h p f l a) (hb : base ≤ h.length) (hp : ∀ b, p b → b < h.length) :
    ∃ a' q h', run (Et base) 26 [.slice a l.length l.length] h = some (.slice a' l.length l.length, h') ∧ SsO base h' q f l a' ∧ (∀ b, q b ∨ blk a' b → h.length ≤ b ∧ b < h'.length) ∧ KB NoB h h' := by
  obtain ⟨o1, k1, q1⟩ := box_own (base := base) (t := 29) (h := h) (cs := []) hb rfl
  generalize hh1 : h ++ [some (⟨[], 29⟩ : Blk)] = h1 at o1 k1 q1
  obtain ⟨h', ao, vs, T, e, ow, hv, hcc, hT, ha, k⟩ := l14Copy_loop (base := base) (lo := h.length) hl hB hp hb l.length 0 h1 (at0 h.length) [] (fun _ => False) (by omega) (hs.keep k1 fun _ _ h => h) (by omega) o1 (by simp) Chunks.nil (fun _ h => h.elim) (fun b hb => by rw [blk_at0] at hb; exact ⟨fun h => h, by omega⟩)
  rw [show ((0 : Nat) : Int) = 0 from rfl] at e
  obtain ⟨C, c1, c2, c3⟩ := hcc
  refine ⟨ao, T, h', r26 (lets fun y ey => ?_), ⟨vs, ow, fun b hb' => (ha b hb').1, hv, fun i x hx => ?_⟩, fun b hb' => ?_, kFresh k1 k fun i hi => hi⟩
  · rw [hh1] at ey
    subst ey
    exact bs e (ifT rfl (bS rfl rfl))
  · obtain ⟨k2, n, s, a2, m, e2, t⟩ := c3 i x hx
    exact ⟨k2, n, s, a2, m, e2, (TmD.tmR _ _ _ _ _ t).mono (fun b hb => c1 i b hb) _ _ _⟩
  · rcases hb' with hb' | hb'
    · exact hT b hb'
    · exact ⟨(ha b hb').2, (ow.lt hb').2⟩

/-- Where a timer is put: behind all from the end on that are not later. -/
def stopT (x : Sd) (l : List Sd) : Nat → Nat
  | 0 => 0
  | k + 1 => if (l.getD k d0).kind > x.kind then stopT x l k else k + 1
theorem stopT_le (x : Sd) (l : List Sd) : ∀ k, stopT x l k ≤ k
  | 0 => Nat.le_refl _
  | k + 1 => by
    rw [stopT]
    split
    · exact Nat.le_succ_of_le (stopT_le x l k)
    · exact Nat.le_refl _
def insT (l : List Sd) (x : Sd) : List Sd := l.take (stopT x l l.length) ++ x :: l.drop (stopT x l l.length)
def addOk (f : Nat) (l : List Sd) (x : Sd) : Bool := tsOk f l && tmOk f x && !(((l.length : Nat) : Int) == (50 : Int))
def addT (f : Nat) (l : List Sd) (x : Sd) : List Sd := if addOk f l x = true then insT l x else l
theorem insT_len (l : List Sd) (x : Sd) : (insT l x).length = l.length + 1 := by
  have := stopT_le x l l.length
  unfold insT
  simp
  omega
theorem mid_len {l : List Sd} {g : Sd} {k : Nat} (hk : k ≤ l.length) : (l.take k ++ g :: l.drop k).length = l.length + 1 := by simp; omega
theorem mid_set {l : List Sd} {g x : Sd} {k : Nat} (hk : k ≤ l.length) : (l.take k ++ g :: l.drop k).set k x = l.take k ++ x :: l.drop k := by
  have e : (l.take k).length = k := by simp; omega
  rw [List.set_append_right _ _ (by omega), e, Nat.sub_self]
  rfl
theorem mid_step {l : List Sd} {x : Sd} {k : Nat} (hk : k < l.length) : l.take (k + 1) ++ l[k] :: l.drop (k + 1) = l.take k ++ l[k] :: l.drop k := by
  rw [take_snoc hk, List.append_assoc, List.singleton_append]
  congr 1
  rw [← List.drop_eq_getElem_cons hk]

theorem specAdd_loop {base f : Nat} {q : Nat → Prop} {l : List Sd} {x : Sd} {a : Option Addr} {xb : Nat} {k1 n1 : Int} {s1 : ByteArray} {a1 : Option Addr} {m1 : Nat} (hl : l.length ≤ 1048576) : ∀ (k : Nat) (h : AH) (g : Sd), k ≤ l.length → SsO base h q f (l.take k ++ g :: l.drop k) a → Own base 29 h (at0 xb) (saidV x.kind x.pid k1 n1 s1 a1 m1) → (∀ b, blk a b → b ≠ xb) →
    ∃ h' g', loopL (B8_0 base) [some (.pointer (at0 xb)), some (.slice a (l.length + 1) (l.length + 1)), some (.int .i64 (k : Int))] h = some (2, [some (.pointer (at0 xb)), some (.slice a (l.length + 1) (l.length + 1)), some (.int .i64 ((stopT x l k : Nat) : Int))], h') ∧ SsO base h' q f (l.take (stopT x l k) ++ g' :: l.drop (stopT x l k)) a ∧ KB (blk a) h h' ∧ h'.length = h.length := by
  intro k
  induction k with
  | zero =>
    intro h g hk hs hx ha
    refine ⟨h, g, loop_off (by decide) ?_, hs, KB.refl _ _, rfl⟩
    rw [B8_0_eq]
    refine bj (q := ([some (.pointer (at0 xb)), some (.slice a (l.length + 1) (l.length + 1)), some (.int .i64 ((0 : Nat) : Int)), some (.bool false)], h)) (ifF (by simp) rfl) ?_
    exact bs rfl (bS rfl (bI rfl (bB rfl (ifF (by decide) rfl))))
  | succ k ih =>
    intro h g hk hs hx ha
    have hklt : k < l.length := by omega
    have hlen := mid_len (l := l) (g := g) (k := k + 1) (by omega)
    have hget : (l.take (k + 1) ++ g :: l.drop (k + 1))[k]'(by omega) = l[k] := by
      rw [List.getElem_append_left (by simp; omega)]
      simp
    obtain ⟨ad, kk, nn, ss, a2, m, ead, _, g0, g1, g2, g3, g4, g5, hm⟩ := hs.ssR.get (i := k) (by omega)
    rw [hget] at g0 g1 hm
    have hidx : (0 : Int) ≤ (k : Int) ∧ (k : Int) < ((l.length + 1 : Nat) : Int) := ⟨by omega, by omega⟩
    have hgD : l.getD k d0 = l[k] := gD hklt
    rw [stopT, hgD]
    subst ead
    by_cases c : l[k].kind > x.kind
    · rw [if_pos c]
      obtain ⟨vs, o, hp, hvl, hxs⟩ := hs
      obtain ⟨kk', nn', ss', a2', m', ech, tm⟩ := hxs k l[k] (by rw [List.getElem?_eq_getElem (by omega), hget])
      have hs : SsO base h q f (l.take (k + 1) ++ g :: l.drop (k + 1)) (some ad) := ⟨vs, o, hp, hvl, hxs⟩
      have same := TmR.same tm hm
      have cell : ∀ j v, (saidV l[k].kind l[k].pid kk' nn' ss' a2' m')[j]? = some v → Am.cell h ad.block (ad.off + k * 6 + j) = some v := by
        intro j v hj
        have hj6 : j < 6 := by have := (List.getElem?_eq_some_iff.1 hj).1; simpa using this
        rw [← ech, chunk, List.getElem?_take_of_lt hj6, List.getElem?_drop] at hj
        obtain ⟨ad', e1, e2⟩ := o.sl.cell hj
        injection e1 with e1
        subst e1
        rw [Nat.add_assoc]; exact e2
      obtain ⟨ad', h1, ead, w1, hs1, kk1, l1⟩ := hs.set (y := l[k]) tm (i := k + 1) (by omega)
      injection ead with ead
      subst ead
      rw [mid_set (by omega), mid_step (x := x) hklt] at hs1
      obtain ⟨h2, g', e2, hs2, k2, l2⟩ := ih h1 l[k] (by omega) hs1 (hx.keep kk1 fun b hb hu => ha b hu (blk_at0.1 hb)) ha
      refine ⟨h2, g', loop_on ?_ e2, hs2, KB.trans kk1 k2 (fun _ _ h => h) (fun _ _ h => h), by omega⟩
      rw [B8_0_eq]
      have w : IntKind.wrap .i64 (((k + 1 : Nat) : Int) - (1 : Int)) = (k : Int) := by rw [w64i (by omega) (by omega)]; omega
      refine bj (q := ([some (.pointer (at0 xb)), some (.slice (some ad) (l.length + 1) (l.length + 1)), some (.int .i64 ((k + 1 : Nat) : Int)), some (.bool true)], h)) ?_ ?_
      · refine ifT (decide_eq_true (by omega)) ?_
        rw [w]
        refine ifT hidx (bs rfl ?_)
        simp only [Int.toNat_natCast]
        exact bI g0 (bI (hx.at0 (i := 0) rfl) (by rw [decide_eq_true c]))
      · refine bs rfl (bS rfl (bI rfl (bB rfl (ifT rfl ?_))))
        rw [w]
        refine ifT hidx (bs rfl ?_)
        simp only [Int.toNat_natCast]
        refine bI (cell 0 _ rfl) (bI (cell 1 _ rfl) (bI (cell 2 _ rfl) (bI (cell 3 _ rfl) (bT (cell 4 _ rfl) (bS (cell 5 _ rfl) (ifT ⟨by omega, by omega⟩ (bs rfl (bs w1 rfl))))))))
    · rw [if_neg c]
      refine ⟨h, g, loop_off (by decide) ?_, hs, KB.refl _ _, rfl⟩
      rw [B8_0_eq]
      have w : IntKind.wrap .i64 (((k + 1 : Nat) : Int) - (1 : Int)) = (k : Int) := by rw [w64i (by omega) (by omega)]; omega
      refine bj (q := ([some (.pointer (at0 xb)), some (.slice (some ad) (l.length + 1) (l.length + 1)), some (.int .i64 ((k + 1 : Nat) : Int)), some (.bool false)], h)) ?_ ?_
      · refine ifT (decide_eq_true (by omega)) ?_
        rw [w]
        refine ifT hidx (bs rfl ?_)
        simp only [Int.toNat_natCast]
        exact bI g0 (bI (hx.at0 (i := 0) rfl) (by rw [decide_eq_false c]))
      · exact bs rfl (bS rfl (bI rfl (bB rfl (ifF (by decide) rfl))))

theorem specAdd_run {base f : Nat} {h : AH} {p : Nat → Prop} {l : List Sd} {a : Option Addr} {x : Sd} {k n : Int} {s : ByteArray} {a2 : Option Addr} {m : Nat} (hl : l.length ≤ 1048576) (hB : ∀ x ∈ l, TmB f x.t) (hs : SsR h p f l a) (hx : TmR h p f x.t (termV k n s a2 m)) (hxB : TmB f x.t) (hb : base ≤ h.length) (hp : ∀ b, p b → b < h.length) :
    ∃ a' q h', run (Et base) 8 [.slice a l.length l.length, .agg (saidV x.kind x.pid k n s a2 m).toArray] h = some (.tuple #[.slice a' (addT f l x).length (addT f l x).length, .bool (addOk f l x)], h') ∧ SsO base h' q f (addT f l x) a' ∧ (∀ b, q b ∨ blk a' b → h.length ≤ b ∧ b < h'.length) ∧ KB NoB h h' := by
  obtain ⟨o1, k1, q1⟩ := box_own (base := base) (t := 29) (h := h) (cs := saidV x.kind x.pid k n s a2 m) hb rfl
  generalize hh1 : h ++ [some (⟨saidV x.kind x.pid k n s a2 m, 29⟩ : Blk)] = h1 at o1 k1 q1
  obtain ⟨a3, q, h2, e2, R2, hq2, k2⟩ := l14CopyO_run (base := base) hl hB (hs.keep k1 fun _ _ h => h) (by omega) (fun b hb => by have := hp b hb; omega)
  have n2 := k2.1
  have k02 := kN k1 k2
  obtain ⟨h5, e5, k5⟩ := specTimersOk_run (base := base) (by omega) (hs.keep k02 fun _ _ h => h) (by omega)
  have n5 := k5.1
  have k05 := kN k02 k5
  obtain ⟨h13, e13, k13⟩ := l14Timer_run (base := base) (x := x) (TmR.keep k05 (fun _ _ h => h) _ _ _ hx) (by omega)
  have n13 := k13.1
  have o5 := (o1.keepN k2).keepN k5
  -- the first join
  obtain ⟨h4, o4, R4, k4, e4⟩ : ∃ h4, Own base 29 h4 (at0 h.length) (saidV x.kind x.pid k n s a2 m) ∧ SsO base h4 q f l a3 ∧ KB NoB h2 h4 ∧
      ((run (Et base) 27 [(.slice a l.length l.length)] h2).bind fun r5 =>
        ((some r5.1).bind getB).bind fun b6 =>
        (if (!b6) = true then
        some (Sum.inl ([some (.pointer (at0 h.length)), some (.slice a3 l.length l.length), some (.bool true)], r5.2))
        else
        ((cell r5.2 (List.length h) 0).bind (getI .i64)).bind fun n7 =>
        ((cell r5.2 (List.length h) 1).bind (getI .i64)).bind fun n8 =>
        ((cell r5.2 (List.length h) 2).bind (getI .i64)).bind fun n9 =>
        ((cell r5.2 (List.length h) 3).bind (getI .i64)).bind fun n10 =>
        ((cell r5.2 (List.length h) 4).bind getStr).bind fun s11 =>
        ((cell r5.2 (List.length h) 5).bind getS).bind fun l12 =>
        (run (Et base) 28 [(.agg #[(.int .i64 n7), (.int .i64 n8), (.int .i64 n9), (.int .i64 n10), (.string s11), (.slice l12.1 l12.2 l12.2)])] r5.2).bind fun r13 =>
        ((some r13.1).bind getB).bind fun b14 =>
        (if (!b14) = true then
        some (Sum.inl ([some (.pointer (at0 h.length)), some (.slice a3 l.length l.length), some (.bool true)], r13.2))
        else
        some (Sum.inl ([some (.pointer (at0 h.length)), some (.slice a3 l.length l.length), some (.bool (((l.length : Nat) : Int) == (50 : Int)))], r13.2))) : Option (Sum (Slots × AH) (Value × AH)))) = some (Sum.inl ([some (.pointer (at0 h.length)), some (.slice a3 l.length l.length), some (.bool (!addOk f l x))], h4)) := by
    unfold addOk
    cases c1 : tsOk f l with
    | false =>
      rw [c1] at e5
      exact ⟨h5, o5, R2.keepN k5, k5, bs e5 (bB rfl (ifT rfl rfl))⟩
    | true =>
      rw [c1] at e5
      cases c2 : tmOk f x with
      | false =>
        rw [c2] at e13
        exact ⟨h13, o5.keepN k13, (R2.keepN k5).keepN k13, kN k5 k13, bs e5 (bB rfl (ifF (by decide) (q6 o5 (bs e13 (bB rfl (ifT rfl rfl))))))⟩
      | true =>
        rw [c2] at e13
        exact ⟨h13, o5.keepN k13, (R2.keepN k5).keepN k13, kN k5 k13, bs e5 (bB rfl (ifF (by decide) (q6 o5 (bs e13 (bB rfl (ifF (by decide) (by simp)))))))⟩
  have n4 := k4.1
  have k04 := kN k02 k4
  have start : ∀ r, ((if (!addOk f l x) = true then some (Value.tuple #[(.slice a3 l.length l.length), (.bool false)], h4) else
      ((cell h4 h.length 2).bind (getI .i64)).bind fun n18 =>
      ((cell h4 h.length 3).bind (getI .i64)).bind fun n19 =>
      ((cell h4 h.length 4).bind getStr).bind fun s20 =>
      ((cell h4 h.length 5).bind getS).bind fun l21 =>
      (run (Et base) 29 [(.agg #[(.int .i64 n18), (.int .i64 n19), (.string s20), (.slice l21.1 l21.2 l21.2)])] h4).bind fun r22 =>
      ((some r22.1).bind (getAgg 4)).bind fun l23 =>
      ((l23[0]?).bind (getI .i64)).bind fun n24 =>
      ((l23[1]?).bind (getI .i64)).bind fun n25 =>
      ((l23[2]?).bind getStr).bind fun s26 =>
      ((l23[3]?).bind getS).bind fun l27 =>
      (Am.wr base r22.2 h.length 2 [(.int .i64 n24), (.int .i64 n25), (.string s26), (.slice l27.1 l27.2 l27.2)]).bind fun h28 =>
      ((cell h28 h.length 0).bind (getI .i64)).bind fun n29 =>
      ((cell h28 h.length 1).bind (getI .i64)).bind fun n30 =>
      ((cell h28 h.length 2).bind (getI .i64)).bind fun n31 =>
      ((cell h28 h.length 3).bind (getI .i64)).bind fun n32 =>
      ((cell h28 h.length 4).bind getStr).bind fun s33 =>
      ((cell h28 h.length 5).bind getS).bind fun l34 =>
      (some (h28 ++ [some ⟨[(.int .i64 n29), (.int .i64 n30), (.int .i64 n31), (.int .i64 n32), (.string s33), (.slice l34.1 l34.2 l34.2)], 29⟩])).bind fun h35 =>
      (Am.app base h35 29 6 72 a3 l.length (rawAt h35 (some ⟨(List.length h28), 0, none⟩) (1 * 6)) 1).bind fun p36 =>
      ((some p36.1).bind getS).bind fun l37 =>
      (loopL (B8_0 base) [some (.pointer (at0 h.length)), some (.slice l37.1 l37.2 l37.2), some (.int .i64 ((l.length : Nat) : Int))] p36.2).bind fun q38 =>
      (if q38.1 = 2 then
      ((sget q38.2.1 0).bind getA).bind fun d39 =>
      ((sget (q38.2.1.tail) 0).bind getS).bind fun l40 =>
      ((sget (q38.2.1.tail.tail) 0).bind (getI .i64)).bind fun n41 =>
      ((cell q38.2.2 d39.block d39.off).bind (getI .i64)).bind fun n42 =>
      ((cell q38.2.2 d39.block (d39.off + 1)).bind (getI .i64)).bind fun n43 =>
      ((cell q38.2.2 d39.block ((d39.off + 1) + 1)).bind (getI .i64)).bind fun n44 =>
      ((cell q38.2.2 d39.block (((d39.off + 1) + 1) + 1)).bind (getI .i64)).bind fun n45 =>
      ((cell q38.2.2 d39.block ((((d39.off + 1) + 1) + 1) + 1)).bind getStr).bind fun s46 =>
      ((cell q38.2.2 d39.block (((((d39.off + 1) + 1) + 1) + 1) + 1)).bind getS).bind fun l47 =>
      (if 0 ≤ n41 ∧ n41 < ((l40.2 : Nat) : Int) then
      ((l40.1 : Option Addr)).bind fun a48 =>
      (Am.wr base q38.2.2 a48.block (a48.off + Int.toNat n41 * 6) [(.int .i64 n42), (.int .i64 n43), (.int .i64 n44), (.int .i64 n45), (.string s46), (.slice l47.1 l47.2 l47.2)]).bind fun h49 =>
      some ((.tuple #[(.slice l40.1 l40.2 l40.2), (.bool true)]), h49)
      else none)
      else
      none)) : Option (Value × AH)) = some r → run (Et base) 8 [.slice a l.length l.length, .agg (saidV x.kind x.pid k n s a2 m).toArray] h = some r := by
    intro r hr
    refine r8 (lets fun y ey => ?_)
    have ey2 : y = h1 := by rw [ey]; exact hh1
    subst ey2
    exact bs e2 (bS rfl (bj _ e4 (bs rfl (bS rfl (bB rfl hr)))))
  unfold addT
  cases ok : addOk f l x with
  | false =>
    rw [ok] at start
    exact ⟨a3, q, h4, start _ (ifT rfl rfl), R4, fun b hb => by have := hq2 b hb; omega, k04⟩
  | true =>
    rw [ok] at start
    rw [if_pos rfl]
    obtain ⟨cs', h22, e22, m22, k22⟩ := l1Copy_run (base := base) f h4 p x.t _ (TmR.keep k04 (fun _ _ h => h) _ _ _ hx) hxB (by omega) (fun b hb => by have := hp b hb; omega)
    have n22 := k22.1
    obtain ⟨k', n', s', a', m', rfl⟩ := m22.form
    obtain ⟨h28, e28, o28, k28, l28⟩ := (o4.keepN k22).wr0 (i := 2) (new := termV k' n' s' a' m') (by simp) (by simp)
    have hset : setAt (saidV x.kind x.pid k n s a2 m) 2 (termV k' n' s' a' m') = saidV x.kind x.pid k' n' s' a' m' := rfl
    rw [hset] at o28
    have m28 := TmD.tmR _ _ _ _ _ (TmD.kp _ _ _ _ _ _ _ k28 (fun b (hb : iS h4.length h22.length b) hu => by omega) m22)
    have R28 := ((R4.keepN k22).keep k28 fun b hu hb => by have := hq2 b hb; omega).mono (r := fun b => q b ∨ iS h4.length h22.length b) (fun b hb => .inl hb) (fun b hb hr => by
      rcases hr with hr | hr
      · obtain ⟨vs, _, hpq, _⟩ := R4
        exact hpq b hb hr
      · have := hq2 b (.inr hb); omega)
    obtain ⟨a36, h36, e36, R36, k36, b36, n36⟩ := R28.snoc (y := x) (m28.mono (fun b hb => .inr hb) _ _ _) (by omega) (fun b hb => by
      rcases hb with hb | hb
      · have := hq2 b (.inl hb); omega
      · omega) hl
    have o36 := o28.keep k36 fun b hb hu => by rw [blk_at0] at hb; have := hq2 b (.inr hu); omega
    have hmid : l ++ [x] = l.take l.length ++ x :: l.drop l.length := by simp
    rw [hmid] at R36
    obtain ⟨h38, g', e38, R38, k38, l38⟩ := specAdd_loop (base := base) (x := x) hl l.length h36 x (by omega) R36 o36 (fun b hb => by have := b36 b hb; omega)
    have o38 := o36.keep k38 fun b hb hu => by rw [blk_at0] at hb; have := b36 b hu; omega
    have sl := stopT_le x l l.length
    have m36 := TmR.keep k36 (fun b (hb : iS h4.length h22.length b) hu => by have := hq2 b (.inr hu); omega) _ _ _ m28
    have m38 := TmR.keep k38 (fun b (hb : iS h4.length h22.length b) hu => by have := b36 b hu; omega) _ _ _ m36
    obtain ⟨ad, h49, ead, w49, R49, k49, l49⟩ := R38.set (y := x) (m38.mono (fun b hb => .inr hb) _ _ _) (i := stopT x l l.length) (by rw [mid_len (by omega)]; omega)
    rw [mid_set (by omega)] at R49
    subst ead
    have kk : KB NoB h h49 := kFresh (kFresh (kFresh (kFresh (kN k04 k22) k28 fun i hi => by omega) k36 fun i hi => by have := hq2 i (.inr hi); omega) k38 fun i hi => by have := b36 i hi; omega) k49 fun i hi => by have := b36 i hi; omega
    refine ⟨some ad, _, h49, start _ (ifF (by decide) ?_), R49, fun b hb => ?_, kk⟩
    · refine bI (o4.at0 (i := 2) rfl) (bI (o4.at0 (i := 3) rfl) (bT (o4.at0 (i := 4) rfl) (bS (o4.at0 (i := 5) rfl) ?_)))
      refine bs e22 (bs (v := termV k' n' s' a' m') rfl (bI rfl (bI rfl (bT rfl (bS rfl (bs e28 (q6 o28 (lets fun y ey => ?_))))))))
      subst ey
      refine bs e36 (bS rfl (bs e38 (ifT rfl (bs rfl (bS rfl (bI rfl (q6 o38 (ifT ⟨by omega, by omega⟩ (bs rfl ?_)))))))))
      simp only [Int.toNat_natCast]
      refine bs w49 ?_
      rw [insT_len]
    · rcases hb with (hb | hb) | hb
      · have := hq2 b (.inl hb); omega
      · omega
      · have := b36 b hb; have := (R49.lt b hb).2; omega
end Go.Proofs.Ytomcfongmahjaaa.Am
