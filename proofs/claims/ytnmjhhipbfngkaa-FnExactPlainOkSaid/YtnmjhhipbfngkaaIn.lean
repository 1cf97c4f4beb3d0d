/- Rows of instructions: counted, copied, compared, marked.
Conditions: none. -/
import Derived.Test.YtnmjhhipbfngkaaMk
import Derived.Test.YtnmjhhipbfngkaaEq1
import Derived.Test.YtnmjhhipbfngkaaEq2
import Derived.Test.YtnmjhhipbfngkaaEq3
import Derived.Test.YtnmjhhipbfngkaaEq4
set_option linter.unusedSimpArgs false
set_option linter.unusedVariables false
namespace Go.Proofs.Ytnmjhhipbfngkaa.Am
open Go Go.RowKit

/-- An instruction. -/
structure In where
  op : Int
  a : Int
  b : Int
  c : Int
  n : Int
  s : ByteArray
abbrev inV (x : In) : List Value := [.int .i64 x.op, .int .i64 x.a, .int .i64 x.b, .int .i64 x.c, .int .i64 x.n, .string x.s]
def insR : List In → List Value
  | [] => []
  | x :: r => inV x ++ insR r
theorem insR_len : ∀ l : List In, (insR l).length = l.length * 6
  | [] => rfl
  | x :: r => by simp only [insR, List.length_append, insR_len r, List.length_cons, List.length_nil]; omega
theorem insR_app : ∀ l r : List In, insR (l ++ r) = insR l ++ insR r
  | [], r => rfl
  | x :: l, r => by simp only [List.cons_append, insR, insR_app l r, List.append_assoc]
theorem insR_get : ∀ {l : List In} {i j : Nat} {x : In}, l[i]? = some x → j < 6 → (insR l)[i * 6 + j]? = (inV x)[j]?
  | [], i, j, x, h, _ => by simp at h
  | y :: r, 0, j, x, h, hj => by
    simp at h
    subst h
    rw [insR, List.getElem?_append_left (by simp; omega)]
    simp
  | y :: r, i + 1, j, x, h, hj => by
    rw [insR, List.getElem?_append_right (by simp; omega)]
    simp only [List.getElem?_cons_succ] at h
    rw [show (i + 1) * 6 + j - (inV y).length = i * 6 + j from by simp; omega]
    exact insR_get h hj
theorem insR_set : ∀ {l : List In} {i : Nat} {x : In}, i < l.length → setAt (insR l) (i * 6) (inV x) = insR (l.set i x)
  | [], i, x, h => by simp at h
  | y :: r, 0, x, h => by
    simp [insR, setAt]
  | y :: r, i + 1, x, h => by
    have ih := insR_set (l := r) (i := i) (x := x) (by simpa using h)
    simp only [insR, List.set_cons_succ, ← ih]
    unfold setAt
    rw [List.take_append, List.drop_append]
    have h6 : (inV y).length = 6 := rfl
    rw [List.take_of_length_le (by rw [h6]; omega), List.drop_of_length_le (by rw [h6]; omega), h6]
    rw [show (i + 1) * 6 - 6 = i * 6 from by omega, show (i + 1) * 6 + (inV x).length - 6 = i * 6 + (inV x).length from by omega]
    simp
theorem In.get {h : AH} {a : Option Addr} {l : List In} (x : Sl h a (insR l)) {i : Nat} (hi : i < l.length) :
    ∃ ad, a = some ad ∧ Am.cell h ad.block (ad.off + i * 6) = some (.int .i64 l[i].op) ∧ Am.cell h ad.block (ad.off + i * 6 + 1) = some (.int .i64 l[i].a) ∧ Am.cell h ad.block (ad.off + i * 6 + 1 + 1) = some (.int .i64 l[i].b) ∧ Am.cell h ad.block (ad.off + i * 6 + 1 + 1 + 1) = some (.int .i64 l[i].c) ∧
      Am.cell h ad.block (ad.off + i * 6 + 1 + 1 + 1 + 1) = some (.int .i64 l[i].n) ∧ Am.cell h ad.block (ad.off + i * 6 + 1 + 1 + 1 + 1 + 1) = some (.string l[i].s) := by
  have g := fun (j : Nat) (v : Value) (hj : j < 6) (hv : (inV l[i])[j]? = some v) => x.cell ((insR_get (List.getElem?_eq_getElem hi) hj).trans hv)
  obtain ⟨ad, rfl, g0⟩ := g 0 _ (by decide) rfl
  obtain ⟨ad1, e, g1⟩ := g 1 _ (by decide) rfl
  injection e with e; subst e
  obtain ⟨ad1, e, g2⟩ := g 2 _ (by decide) rfl
  injection e with e; subst e
  obtain ⟨ad1, e, g3⟩ := g 3 _ (by decide) rfl
  injection e with e; subst e
  obtain ⟨ad1, e, g4⟩ := g 4 _ (by decide) rfl
  injection e with e; subst e
  obtain ⟨ad1, e, g5⟩ := g 5 _ (by decide) rfl
  injection e with e; subst e
  exact ⟨ad, rfl, g0, by rw [Nat.add_assoc]; exact g1, by rw [Nat.add_assoc, Nat.add_assoc]; exact g2, by rw [Nat.add_assoc, Nat.add_assoc, Nat.add_assoc]; exact g3, by rw [Nat.add_assoc, Nat.add_assoc, Nat.add_assoc, Nat.add_assoc]; exact g4, by rw [Nat.add_assoc, Nat.add_assoc, Nat.add_assoc, Nat.add_assoc, Nat.add_assoc]; exact g5⟩
/-- Six cells read out of a box. -/
theorem qi {base t n : Nat} {h : AH} {x : In} (o : Own base t h (at0 n) (inV x)) {β : Type} {f : Int → Int → Int → Int → Int → ByteArray → Option β} {r : Option β} (hf : f x.op x.a x.b x.c x.n x.s = r) :
    (((Am.cell h n 0).bind (getI .i64)).bind fun n1 => ((Am.cell h n 1).bind (getI .i64)).bind fun n2 => ((Am.cell h n 2).bind (getI .i64)).bind fun n3 => ((Am.cell h n 3).bind (getI .i64)).bind fun n4 => ((Am.cell h n 4).bind (getI .i64)).bind fun n5 => ((Am.cell h n 5).bind getStr).bind fun s6 => f n1 n2 n3 n4 n5 s6) = r :=
  bI (o.at0 (i := 0) rfl) (bI (o.at0 (i := 1) rfl) (bI (o.at0 (i := 2) rfl) (bI (o.at0 (i := 3) rfl) (bI (o.at0 (i := 4) rfl) (bT (o.at0 (i := 5) rfl) hf)))))

/-! counted -/
theorem szIns_run {base : Nat} {h : AH} {x : In} {left : Int} (hs : x.s.size ≤ 9223372036854775807) (h0 : 0 ≤ left) (h1 : left ≤ 1048576) (hb : base ≤ h.length) :
    ∃ z h', run (Et base) 76 [.agg (inV x).toArray, .int .i64 left] h = some (.int .i64 z, h') ∧ KB NoB h h' ∧ z ≤ left ∧ -1 ≤ z ∧ (¬ z < 0 → x.s.size ≤ 1048576) := by
  obtain ⟨o1, k1, q1⟩ := box_own (base := base) (t := 113) (h := h) (cs := inV x) hb rfl
  generalize hh1 : h ++ [some (⟨inV x, 113⟩ : Blk)] = h1' at o1 k1 q1
  by_cases hn : left - (x.s.size : Int) < 0
  · refine ⟨-1, h1', r76 (lets fun y ey => ?_), k1, by omega, by omega, fun h => absurd (by decide) h⟩
    rw [hh1] at ey
    subst ey
    refine bT (o1.at0 (i := 5) rfl) ?_
    rw [w64i (by omega) (by omega)]
    exact ifT (decide_eq_true hn) rfl
  · refine ⟨left - (x.s.size : Int), h1', r76 (lets fun y ey => ?_), k1, by omega, by omega, fun _ => by omega⟩
    rw [hh1] at ey
    subst ey
    refine bT (o1.at0 (i := 5) rfl) ?_
    rw [w64i (by omega) (by omega)]
    exact ifF (by simpa using hn) rfl
theorem szInsS_loop {base : Nat} {l : List In} {a : Option Addr} (hL : ∀ x ∈ l, x.s.size ≤ 9223372036854775807) (hl : l.length ≤ 1048576) : ∀ (d i : Nat) (h : AH) (left : Int), i + d = l.length → Sl h a (insR l) → base ≤ h.length → 0 ≤ left → left ≤ 1048576 →
    ∃ e z h', loopL (B20_0 base) [some (.slice a l.length l.length), some (.int .i64 left), some (.int .i64 (i : Int))] h = some (e, [some (.int .i64 z)], h') ∧ (e = 1 ∨ e = 2) ∧ KB NoB h h' ∧ z ≤ left ∧ -1 ≤ z ∧ (¬ z < 0 → ∀ j x, i ≤ j → l[j]? = some x → x.s.size ≤ 1048576) := by
  intro d
  induction d with
  | zero =>
    intro i h left hi hs hb h0 h1
    refine ⟨2, left, h, ?_, .inr rfl, KB.refl _ _, Int.le_refl _, by omega, fun _ j x hj hx => ?_⟩
    · refine loop_off (by decide) ?_
      rw [B20_0_eq]
      exact ifF (by simp; omega) rfl
    · have := (List.getElem?_eq_some_iff.1 hx).1; omega
  | succ d ihd =>
    intro i h left hi hs hb h0 h1
    have hlt : i < l.length := by omega
    obtain ⟨ad, rfl, g0, g1, g2, g3, g4, g5⟩ := In.get hs hlt
    obtain ⟨z, h', e, k, z1, z2, z3⟩ := szIns_run (base := base) (h := h) (x := l[i]) (left := left) (hL _ (List.getElem_mem hlt)) h0 h1 hb
    have head : ∀ {r : Option (Nat × Slots × AH)}, (if (decide (z < (0 : Int))) = true then some (1, [some (.int .i64 (-1 : Int))], h') else some (0, [some (.slice (some ad) l.length l.length), some (.int .i64 z), some (.int .i64 (IntKind.wrap .i64 ((i : Int) + (1 : Int))))], h')) = r → B20_0 base [some (.slice (some ad) l.length l.length), some (.int .i64 left), some (.int .i64 (i : Int))] h = r := by
      intro r hr
      rw [B20_0_eq]
      refine ifT (decide_eq_true (by omega)) (ifT ⟨by omega, by omega⟩ (bs rfl ?_))
      simp only [Int.toNat_natCast]
      exact bI g0 (bI g1 (bI g2 (bI g3 (bI g4 (bT g5 (bs e (bI rfl hr)))))))
    by_cases hn : z < 0
    · exact ⟨1, -1, h', loop_off (by decide) (head (ifT (decide_eq_true hn) rfl)), .inl rfl, k, by omega, by omega, fun h => absurd (by decide) h⟩
    · have n1 := k.1
      obtain ⟨e2, z', h2, y1, y2, y3, y4, y5, y6⟩ := ihd (i + 1) h' z (by omega) (hs.keepN k) (by omega) (by omega) (by omega)
      refine ⟨e2, z', h2, loop_on (head (ifF (by simpa using hn) ?_)) y1, y2, kN k y3, by omega, by omega, fun hz j x hj hx => ?_⟩
      · rw [w64i (n := (i : Int) + 1) (by omega) (by omega)]; rfl
      · by_cases c : j = i
        · subst c
          rw [List.getElem?_eq_getElem hlt] at hx
          injection hx with hx
          subst hx
          exact z3 hn
        · exact y6 hz j x (by omega) hx
theorem szInsS_run {base : Nat} {h : AH} {l : List In} {a : Option Addr} (hL : ∀ x ∈ l, x.s.size ≤ 9223372036854775807) (hl : l.length ≤ 9223372036854775807) (hs : Sl h a (insR l)) (hb : base ≤ h.length) :
    ∃ z h', run (Et base) 20 [.slice a l.length l.length, .int .i64 1048576] h = some (.int .i64 z, h') ∧ KB NoB h h' ∧ (¬ z < 0 → l.length ≤ 1048576 ∧ (∀ x ∈ l, x.s.size ≤ 1048576) ∧ z ≤ 1048576) := by
  by_cases hn : (1048576 : Int) - (l.length : Int) < 0
  · refine ⟨-1, h, r20 ?_, KB.refl _ _, fun h => absurd (by decide) h⟩
    rw [w64i (by omega) (by omega)]
    exact ifT (decide_eq_true hn) rfl
  · obtain ⟨e, z, h', y1, y2, y3, y4, y5, y6⟩ := szInsS_loop (base := base) hL (by omega) l.length 0 h (1048576 - (l.length : Int)) (by omega) hs hb (by omega) (by omega)
    refine ⟨z, h', r20 ?_, y3, fun hz => ⟨by omega, fun x hx => ?_, by omega⟩⟩
    · rw [w64i (by omega) (by omega)]
      refine ifF (by simpa using hn) (bs y1 ?_)
      rcases y2 with rfl | rfl
      · exact ifT rfl (bI rfl rfl)
      · exact ifF (show ¬ (2 : Nat) = 1 by decide) (ifT rfl (bI rfl rfl))
    · obtain ⟨j, hj⟩ := List.getElem?_of_mem hx
      exact y6 hz j x (by omega) hj

/-! copied -/
theorem toIns_run {base : Nat} {h : AH} {x : In} (hb : base ≤ h.length) : ∃ h', run (Et base) 79 [.agg (inV x).toArray] h = some (.agg (inV x).toArray, h') ∧ KB NoB h h' := by
  obtain ⟨o1, k1, q1⟩ := box_own (base := base) (t := 113) (h := h) (cs := inV x) hb rfl
  generalize hh1 : h ++ [some (⟨inV x, 113⟩ : Blk)] = h1 at o1 k1 q1
  obtain ⟨o2, k2, q2⟩ := box_own (base := base) (t := 116) (h := h1) (cs := inV ⟨0, 0, 0, 0, 0, ⟨#[]⟩⟩) (by omega) rfl
  generalize hh2 : h1 ++ [some (⟨inV ⟨0, 0, 0, 0, 0, ⟨#[]⟩⟩, 116⟩ : Blk)] = h2 at o2 k2 q2
  obtain ⟨o3, k3, q3⟩ := box_own (base := base) (t := 116) (h := h2) (cs := inV ⟨0, 0, 0, 0, 0, ⟨#[]⟩⟩) (by omega) rfl
  generalize hh3 : h2 ++ [some (⟨inV ⟨0, 0, 0, 0, 0, ⟨#[]⟩⟩, 116⟩ : Blk)] = h3 at o3 k3 q3
  have o1 := (o1.keepN k2).keepN k3
  have o2 := o2.keepN k3
  have nb1 : ∀ {i}, blk (at0 h.length) i → i ≠ h2.length := fun hi => by rw [blk_at0] at hi; omega
  have nb2 : ∀ {i}, blk (at0 h1.length) i → i ≠ h2.length := fun hi => by rw [blk_at0] at hi; omega
  obtain ⟨h4, e4, o4, k4, l4⟩ := o3.wr0 (i := 0) (new := [.int .i64 x.op]) (by simp) (by simp)
  have p4 := o1.keepB k4 fun i hi => nb1 hi
  have z4 := o2.keepB k4 fun i hi => nb2 hi
  obtain ⟨h5, e5, o5, k5, l5⟩ := o4.wr0 (i := 1) (new := [.int .i64 x.a]) (by simp [setAt]) (by simp)
  have p5 := p4.keepB k5 fun i hi => nb1 hi
  have z5 := z4.keepB k5 fun i hi => nb2 hi
  obtain ⟨h6, e6, o6, k6, l6⟩ := o5.wr0 (i := 2) (new := [.int .i64 x.b]) (by simp [setAt]) (by simp)
  have p6 := p5.keepB k6 fun i hi => nb1 hi
  have z6 := z5.keepB k6 fun i hi => nb2 hi
  obtain ⟨h7, e7, o7, k7, l7⟩ := o6.wr0 (i := 3) (new := [.int .i64 x.c]) (by simp [setAt]) (by simp)
  have p7 := p6.keepB k7 fun i hi => nb1 hi
  have z7 := z6.keepB k7 fun i hi => nb2 hi
  obtain ⟨h8, e8, o8, k8, l8⟩ := o7.wr0 (i := 4) (new := [.int .i64 x.n]) (by simp [setAt]) (by simp)
  have p8 := p7.keepB k8 fun i hi => nb1 hi
  have z8 := z7.keepB k8 fun i hi => nb2 hi
  obtain ⟨h9, e9, o9, k9, l9⟩ := o8.wr0 (i := 5) (new := [.string x.s]) (by simp [setAt]) (by simp)
  have z9 := z8.keepB k9 fun i hi => nb2 hi
  have hset : setAt (setAt (setAt (setAt (setAt (setAt (inV ⟨0, 0, 0, 0, 0, ⟨#[]⟩⟩) 0 [.int .i64 x.op]) 1 [.int .i64 x.a]) 2 [.int .i64 x.b]) 3 [.int .i64 x.c]) 4 [.int .i64 x.n]) 5 [.string x.s] = inV x := rfl
  rw [hset] at o9
  obtain ⟨h10, e10, o10, k10, l10⟩ := z9.wr0 (i := 0) (new := inV x) (by simp) (by simp)
  have hz : setAt (inV ⟨0, 0, 0, 0, 0, ⟨#[]⟩⟩) 0 (inV x) = inV x := rfl
  rw [hz] at o10
  have k03 := kN (kN k1 k2) k3
  have kk : KB (· = h2.length) h3 h9 := KB.trans (KB.trans (KB.trans (KB.trans (KB.trans k4 k5 (fun _ _ h => h) (fun _ _ h => h)) k6 (fun _ _ h => h) (fun _ _ h => h)) k7 (fun _ _ h => h) (fun _ _ h => h)) k8 (fun _ _ h => h) (fun _ _ h => h)) k9 (fun _ _ h => h) (fun _ _ h => h)
  refine ⟨h10, r79 (lets fun y ey => ?_), kFresh (kFresh k03 kk fun i hi => by omega) k10 fun i hi => by omega⟩
  rw [hh1] at ey
  subst ey
  refine lets fun y ey => ?_
  rw [hh2] at ey
  subst ey
  refine lets fun y ey => ?_
  rw [hh3] at ey
  subst ey
  refine bI (o1.at0 (i := 0) rfl) (bs e4 (bI (p4.at0 (i := 1) rfl) (bs e5 (bI (p5.at0 (i := 2) rfl) (bs e6 (bI (p6.at0 (i := 3) rfl) (bs e7 (bI (p7.at0 (i := 4) rfl) (bs e8 (bT (p8.at0 (i := 5) rfl) (bs e9 ?_)))))))))))
  exact qi o9 (bs e10 (qi o10 rfl))
theorem rep_ins (n : Nat) : rep (inV ⟨0, 0, 0, 0, 0, ⟨#[]⟩⟩) n = insR (List.replicate n ⟨0, 0, 0, 0, 0, ⟨#[]⟩⟩) := by
  induction n with
  | zero => rfl
  | succ n ih => simp only [rep, List.replicate_succ, insR, ih]
theorem toInsS_loop {base ob : Nat} {l : List In} {a : Option Addr} (hl : l.length ≤ 1048576) (hbo : base ≤ ob) (hab : ∀ b, insR l ≠ [] → blk a b → b ≠ ob) : ∀ (d i : Nat) (h : AH) (ys : List In), i + d = l.length → Sl h a (insR l) → ob < h.length → Own base 116 h (at0 ob) (insR ys) → ys.length = l.length → (∀ j, j < i → ys[j]? = l[j]?) →
    ∃ h', loopL (B22_0 base) [some (.slice a l.length l.length), some (.slice (at0 ob) l.length l.length), some (.int .i64 (i : Int))] h = some (2, [some (.slice (at0 ob) l.length l.length)], h') ∧ Own base 116 h' (at0 ob) (insR l) ∧ KB (· = ob) h h' := by
  intro d
  induction d with
  | zero =>
    intro i h ys hi hs hlh ow hy hj
    have : ys = l := List.ext_getElem? fun j => by
      by_cases h : j < i
      · exact hj j h
      · rw [List.getElem?_eq_none (by omega), List.getElem?_eq_none (by omega)]
    subst this
    refine ⟨h, ?_, ow, KB.refl _ _⟩
    refine loop_off (by decide) ?_
    rw [B22_0_eq]
    exact ifF (by simp; omega) rfl
  | succ d ihd =>
    intro i h ys hi hs hlh ow hy hj
    have hlt : i < l.length := by omega
    obtain ⟨ad, ea, g0, g1, g2, g3, g4, g5⟩ := In.get hs hlt
    obtain ⟨h2, e2, k2⟩ := toIns_run (base := base) (h := h) (x := l[i]) (by omega)
    have n2 := k2.1
    obtain ⟨h3, e3, o3, k3, l3⟩ := (ow.keepN k2).wr0 (i := i * 6) (new := inV l[i]) (by rw [insR_len]; simp; omega) (by simp)
    rw [insR_set (by omega)] at o3
    have hs3 : Sl h3 a (insR l) := (hs.keepN k2).keepB (h0 := h2) k3 (by
      by_cases hne : insR l = []
      · exact .inl hne
      · exact .inr fun b hb => hab b hne hb)
    obtain ⟨h4, y1, y2, y3⟩ := ihd (i + 1) h3 (ys.set i l[i]) (by omega) hs3 (by omega) o3 (by simpa using hy) (fun j hj' => by
      by_cases c : j = i
      · subst c
        rw [List.getElem?_set_self (by omega), List.getElem?_eq_getElem hlt]
      · rw [List.getElem?_set_ne (by omega)]; exact hj j (by omega))
    refine ⟨h4, loop_on ?_ y1, y2, KB.trans (kNB k2 k3) y3 (fun _ _ h => h) (fun _ _ h => h)⟩
    rw [B22_0_eq]
    subst ea
    refine ifT (decide_eq_true (by omega)) (ifT ⟨by omega, by omega⟩ (bs rfl ?_))
    simp only [Int.toNat_natCast]
    refine bI g0 (bI g1 (bI g2 (bI g3 (bI g4 (bT g5 (bs e2 (bs (v := inV l[i]) rfl ?_)))))))
    refine bI rfl (bI rfl (bI rfl (bI rfl (bI rfl (bT rfl (ifT ⟨by omega, by omega⟩ (bs rfl ?_)))))))
    refine bs (by rw [Nat.zero_add]; exact e3) ?_
    rw [w64i (n := (i : Int) + 1) (by omega) (by omega)]
    rfl
theorem toInsS_run {base : Nat} {h : AH} {l : List In} {a : Option Addr} (hl : l.length ≤ 1048576) (hs : Sl h a (insR l)) (hb : base ≤ h.length) :
    ∃ h', run (Et base) 22 [.slice a l.length l.length] h = some (.slice (at0 h.length) l.length l.length, h') ∧ Own base 116 h' (at0 h.length) (insR l) ∧ KB NoB h h' ∧ h.length < h'.length := by
  obtain ⟨o1, k1, q1⟩ := box_own (base := base) (t := 116) (h := h) (cs := rep (inV ⟨0, 0, 0, 0, 0, ⟨#[]⟩⟩) l.length) hb rfl
  generalize hh1 : h ++ [some (⟨rep (inV ⟨0, 0, 0, 0, 0, ⟨#[]⟩⟩) l.length, 116⟩ : Blk)] = h1 at o1 k1 q1
  rw [rep_ins] at o1
  obtain ⟨h2, y1, y2, y3⟩ := toInsS_loop (base := base) (ob := h.length) hl hb (fun b hne hb' => by
    have := sl_lt hs hne hb'; omega) l.length 0 h1 _ (by omega) (hs.keepN k1) (by omega) o1 (by simp) (fun j hj => by omega)
  have := y3.1
  refine ⟨h2, r22 (ifT ⟨rfl, by omega, by omega, by omega⟩ ?_), y2, kFresh k1 y3 fun i hi => by omega, by omega⟩
  simp only [Int.toNat_natCast]
  refine lets fun y ey => ?_
  rw [hh1] at ey
  subst ey
  exact bs y1 (ifT rfl (bS rfl rfl))

/-! compared -/
theorem eqIns_run {base : Nat} {h : AH} {x : In} (hb : base ≤ h.length) : ∃ h', run (Et base) 82 [.agg (inV x).toArray, .agg (inV x).toArray] h = some (.bool true, h') ∧ KB NoB h h' := by
  obtain ⟨o1, k1, q1⟩ := box_own (base := base) (t := 116) (h := h) (cs := inV x) hb rfl
  generalize hh1 : h ++ [some (⟨inV x, 116⟩ : Blk)] = h1 at o1 k1 q1
  obtain ⟨o2, k2, q2⟩ := box_own (base := base) (t := 116) (h := h1) (cs := inV x) (by omega) rfl
  generalize hh2 : h1 ++ [some (⟨inV x, 116⟩ : Blk)] = h2 at o2 k2 q2
  have o1 := o1.keepN k2
  refine ⟨h2, r82 (lets fun y ey => ?_), kN k1 k2⟩
  rw [hh1] at ey
  subst ey
  refine lets fun y ey => ?_
  rw [hh2] at ey
  subst ey
  refine bI (o1.at0 (i := 0) rfl) (bI (o2.at0 (i := 0) rfl) (ifF (by simp) (bI (o1.at0 (i := 1) rfl) (bI (o2.at0 (i := 1) rfl) (ifF (by simp) ?_)))))
  refine bI (o1.at0 (i := 2) rfl) (bI (o2.at0 (i := 2) rfl) (ifF (by simp) (bI (o1.at0 (i := 3) rfl) (bI (o2.at0 (i := 3) rfl) (ifF (by simp) ?_)))))
  exact bI (o1.at0 (i := 4) rfl) (bI (o2.at0 (i := 4) rfl) (ifF (by simp) (bT (o1.at0 (i := 5) rfl) (bT (o2.at0 (i := 5) rfl) (ifF (by simp) rfl)))))
theorem eqInsS_loop {base : Nat} {l : List In} {a b : Option Addr} (hl : l.length ≤ 9223372036854775807) : ∀ (d i : Nat) (h : AH), i + d = l.length → Sl h a (insR l) → Sl h b (insR l) → base ≤ h.length →
    ∃ h', loopL (B25_0 base) [some (.slice a l.length l.length), some (.slice b l.length l.length), some (.int .i64 (i : Int))] h = some (2, [], h') ∧ KB NoB h h' := by
  intro d
  induction d with
  | zero =>
    intro i h hi hs hs2 hb
    refine ⟨h, ?_, KB.refl _ _⟩
    refine loop_off (by decide) ?_
    rw [B25_0_eq]
    exact ifF (by simp; omega) rfl
  | succ d ihd =>
    intro i h hi hs hs2 hb
    have hlt : i < l.length := by omega
    obtain ⟨ad, rfl, g0, g1, g2, g3, g4, g5⟩ := In.get hs hlt
    obtain ⟨ad2, rfl, f0, f1, f2, f3, f4, f5⟩ := In.get hs2 hlt
    obtain ⟨h2, e2, k2⟩ := eqIns_run (base := base) (h := h) (x := l[i]) (by omega)
    have n2 := k2.1
    obtain ⟨h3, y1, y2⟩ := ihd (i + 1) h2 (by omega) (hs.keepN k2) (hs2.keepN k2) (by omega)
    refine ⟨h3, loop_on ?_ y1, kN k2 y2⟩
    rw [B25_0_eq]
    refine ifT (decide_eq_true (by omega)) (ifT ⟨by omega, by omega⟩ (bs rfl ?_))
    simp only [Int.toNat_natCast]
    refine bI g0 (bI g1 (bI g2 (bI g3 (bI g4 (bT g5 (ifT ⟨by omega, by omega⟩ (bs rfl ?_)))))))
    refine bI f0 (bI f1 (bI f2 (bI f3 (bI f4 (bT f5 (bs e2 (bB rfl (ifF (by decide) ?_))))))))
    rw [w64i (n := (i : Int) + 1) (by omega) (by omega)]
    rfl
theorem eqInsS_run {base : Nat} {h : AH} {l : List In} {a b : Option Addr} (hl : l.length ≤ 9223372036854775807) (hs : Sl h a (insR l)) (hs2 : Sl h b (insR l)) (hb : base ≤ h.length) :
    ∃ h', run (Et base) 25 [.slice a l.length l.length, .slice b l.length l.length] h = some (.bool true, h') ∧ KB NoB h h' := by
  obtain ⟨h', y1, y2⟩ := eqInsS_loop (base := base) hl l.length 0 h (by omega) hs hs2 hb
  refine ⟨h', r25 (ifF (by simp) ?_), y2⟩
  exact bs y1 (ifF (show ¬ (2 : Nat) = 1 by decide) (ifT rfl rfl))

/-! marked -/
def markI (k : Int) : In := ⟨k, k + 1, k + 1 + 1, k + 1 + 1 + 1, k + 1 + 1 + 1 + 1, mt (k + 1 + 1 + 1 + 1 + 1)⟩
end Go.Proofs.Ytnmjhhipbfngkaa.Am
