/- Rows of instructions: counted, copied, compared, marked.
Conditions: none. -/
import Derived.Test.YtnmjhhipbfngkaaMk
import Derived.Test.YtnmjhhipbfngkaaEq1
import Derived.Test.YtnmjhhipbfngkaaEq2
import Derived.Test.YtnmjhhipbfngkaaEq3
import Derived.Test.YtnmjhhipbfngkaaEq4
set_option linter.unusedSimpArgs false
set_option linter.unusedVariables false
namespace Go.Proofs.Ytnmjhhipbfngkaa.Am
open Go Go.RowKit

/-- An instruction. -/
structure In where
  op : Int
  a : Int
  b : Int
  c : Int
  n : Int
  s : ByteArray
abbrev inV (x : In) : List Value := [.int .i64 x.op, .int .i64 x.a, .int .i64 x.b, .int .i64 x.c, .int .i64 x.n, .string x.s]
def insR : List In → List Value
  | [] => []
  | x :: r => inV x ++ insR r
theorem insR_len : ∀ l : List In, (insR l).length = l.length * 6
  | [] => rfl
  | x :: r => by simp only [insR, List.length_append, insR_len r, List.length_cons, List.length_nil]; omega
theorem insR_app : ∀ l r : List In, insR (l ++ r) = insR l ++ insR r
  | [], r => rfl
  | x :: l, r => by simp only [List.cons_append, insR, insR_app l r, List.append_assoc]
theorem insR_get : ∀ {l : List In} {i j : Nat} {x : In}, l[i]? = some x → j < 6 → (insR l)[i * 6 + j]? = (inV x)[j]?
  | [], i, j, x, h, _ => by simp at h
  | y :: r, 0, j, x, h, hj => by
    simp at h
    subst h
    rw [insR, List.getElem?_append_left (by simp; omega)]
    simp
  | y :: r, i + 1, j, x, h, hj => by
    rw [insR, List.getElem?_append_right (by simp; omega)]
    simp only [List.getElem?_cons_succ] at h
    rw [show (i + 1) * 6 + j - (inV y).length = i * 6 + j from by simp; omega]
    exact insR_get h hj
theorem insR_set : ∀ {l : List In} {i : Nat} {x : In}, i < l.length → setAt (insR l) (i * 6) (inV x) = insR (l.set i x)
  | [], i, x, h => by simp at h
  | y :: r, 0, x, h => by
    simp [insR, setAt]
  | y :: r, i + 1, x, h => by
    have ih := insR_set (l := r) (i := i) (x := x) (by simpa using h)
    simp only [insR, List.set_cons_succ, ← ih]
    unfold setAt
    rw [List.take_append, List.drop_append]
    have h6 : (inV y).length = 6 := rfl
    rw [List.take_of_length_le (by rw [h6]; omega), List.drop_of_length_le (by rw [h6]; omega), h6]
    rw [show (i + 1) * 6 - 6 = i * 6 from by omega, show (i + 1) * 6 + (inV x).length - 6 = i * 6 + (inV x).length from by omega]
    simp
theorem In.get {h : AH} {a : Option Addr} {l : List In} (x : Sl h a (insR l)) {i : Nat} (hi : i < l.length) :
    ∃ ad, a = some ad ∧ Am.cell h ad.block (ad.off + i * 6) = some (.int .i64 l[i].op) ∧ Am.cell h ad.block (ad.off + i * 6 + 1) = some (.int .i64 l[i].a) ∧ Am.cell h ad.block (ad.off + i * 6 + 1 + 1) = some (.int .i64 l[i].b) ∧ Am.cell h ad.block (ad.off + i * 6 + 1 + 1 + 1) = some (.int .i64 l[i].c) ∧
      Am.cell h ad.block (ad.off + i * 6 + 1 + 1 + 1 + 1) = some (.int .i64 l[i].n) ∧ Am.cell h ad.block (ad.off + i * 6 + 1 + 1 + 1 + 1 + 1) = some (.string l[i].s) := by
  have g := fun (j : Nat) (v : Value) (hj : j < 6) (hv : (inV l[i])[j]? = some v) => x.cell ((insR_get (List.getElem?_eq_getElem hi) hj).trans hv)
  obtain ⟨ad, rfl, g0⟩ := g 0 _ (by decide) rfl
  obtain ⟨ad1, e, g1⟩ := g 1 _ (by decide) rfl
  injection e with e; subst e
  obtain ⟨ad1, e, g2⟩ := g 2 _ (by decide) rfl
  injection e with e; subst e
  obtain ⟨ad1, e, g3⟩ := g 3 _ (by decide) rfl
  injection e with e; subst e
  obtain ⟨ad1, e, g4⟩ := g 4 _ (by decide) rfl
  injection e with e; subst e
  obtain ⟨ad1, e, g5⟩ := g 5 _ (by decide) rfl
  injection e with e; subst e
  exact ⟨ad, rfl, g0, by rw [Nat.add_assoc]; exact g1, by rw [Nat.add_assoc, Nat.add_assoc]; exact g2, by rw [Nat.add_assoc, Nat.add_assoc, Nat.add_assoc]; exact g3, by rw [Nat.add_assoc, Nat.add_assoc, Nat.add_assoc, Nat.add_assoc]; exact g4, by rw [Nat.add_assoc, Nat.add_assoc, Nat.add_assoc, Nat.add_assoc, Nat.add_assoc]; exact g5⟩
/-- Six cells read out of a box. -/
theorem qi {base t n : Nat} {h : AH} {x : In} (o : Own base t h (at0 n) (inV x)) {β : Type} {f : Int → Int → Int → Int → Int → ByteArray → Option β} {r : Option β} (hf : f x.op x.a x.b x.c x.n x.s = r) :
    (((Am.cell h n 0).bind (getI .i64)).bind fun n1 => ((Am.cell h n 1).bind (getI .i64)).bind fun n2 => ((Am.cell h n 2).bind (getI .i64)).bind fun n3 => ((Am.cell h n 3).bind (getI .i64)).bind fun n4 => ((Am.cell h n 4).bind (getI .i64)).bind fun n5 => ((Am.cell h n 5).bind getStr).bind fun s6 => f n1 n2 n3 n4 n5 s6) = r :=
  bI (o.at0 (i := 0) rfl) (bI (o.at0 (i := 1) rfl) (bI (o.at0 (i := 2) rfl) (bI (o.at0 (i := 3) rfl) (bI (o.at0 (i := 4) rfl) (bT (o.at0 (i := 5) rfl) hf)))))

/-! counted -/
/-! copied -/
theorem rep_ins (n : Nat) : rep (inV ⟨0, 0, 0, 0, 0, ⟨#[]⟩⟩) n = insR (List.replicate n ⟨0, 0, 0, 0, 0, ⟨#[]⟩⟩) := by
  induction n with
  | zero => rfl
  | succ n ih => simp only [rep, List.replicate_succ, insR, ih]
/-! compared -/
theorem eqIns_run {base : Nat} {h : AH} {x : In} (hb : base ≤ h.length) : ∃ h', run (Et base) 82 [.agg (inV x).toArray, .agg (inV x).toArray] h = some (.bool true, h') ∧ KB NoB h h' := by
  obtain ⟨o1, k1, q1⟩ := box_own (base := base) (t := 116) (h := h) (cs := inV x) hb rfl
  generalize hh1 : h ++ [some (⟨inV x, 116⟩ : Blk)] = h1 at o1 k1 q1
  obtain ⟨o2, k2, q2⟩ := box_own (base := base) (t := 116) (h := h1) (cs := inV x) (by omega) rfl
  generalize hh2 : h1 ++ [some (⟨inV x, 116⟩ : Blk)] = h2 at o2 k2 q2
  have o1 := o1.keepN k2
  refine ⟨h2, r82 (lets fun y ey => ?_), kN k1 k2⟩
  rw [hh1] at ey
  subst ey
  refine lets fun y ey => ?_
  rw [hh2] at ey
  subst ey
  refine bI (o1.at0 (i := 0) rfl) (bI (o2.at0 (i := 0) rfl) (ifF (by simp) (bI (o1.at0 (i := 1) rfl) (bI (o2.at0 (i := 1) rfl) (ifF (by simp) ?_)))))
  refine bI (o1.at0 (i := 2) rfl) (bI (o2.at0 (i := 2) rfl) (ifF (by simp) (bI (o1.at0 (i := 3) rfl) (bI (o2.at0 (i := 3) rfl) (ifF (by simp) ?_)))))
  exact bI (o1.at0 (i := 4) rfl) (bI (o2.at0 (i := 4) rfl) (ifF (by simp) (bT (o1.at0 (i := 5) rfl) (bT (o2.at0 (i := 5) rfl) (ifF (by simp) rfl)))))
theorem eqInsS_loop {base : Nat} {l : List In} {a b : Option Addr} (hl : l.length ≤ 9223372036854775807) : ∀ (d i : Nat) (h : AH), i + d = l.length → Sl h a (insR l) → Sl h b (insR l) → base ≤ h.length →
    ∃ h', loopL (B25_0 base) [some (.slice a l.length l.length), some (.slice b l.length l.length), some (.int .i64 (i : Int))] h = some (2, [], h') ∧ KB NoB h h' := by
  intro d
  induction d with
  | zero =>
    intro i h hi hs hs2 hb
    refine ⟨h, ?_, KB.refl _ _⟩
    refine loop_off (by decide) ?_
    rw [B25_0_eq]
    exact ifF (by simp; omega) rfl
  | succ d ihd =>
    intro i h hi hs hs2 hb
    have hlt : i < l.length := by omega
    obtain ⟨ad, rfl, g0, g1, g2, g3, g4, g5⟩ := In.get hs hlt
    obtain ⟨ad2, rfl, f0, f1, f2, f3, f4, f5⟩ := In.get hs2 hlt
    obtain ⟨h2, e2, k2⟩ := eqIns_run (base := base) (h := h) (x := l[i]) (by omega)
    have n2 := k2.1
    obtain ⟨h3, y1, y2⟩ := ihd (i + 1) h2 (by omega) (hs.keepN k2) (hs2.keepN k2) (by omega)
    refine ⟨h3, loop_on ?_ y1, kN k2 y2⟩
    rw [B25_0_eq]
    refine ifT (decide_eq_true (by omega)) (ifT ⟨by omega, by omega⟩ (bs rfl ?_))
    simp only [Int.toNat_natCast]
    refine bI g0 (bI g1 (bI g2 (bI g3 (bI g4 (bT g5 (ifT ⟨by omega, by omega⟩ (bs rfl ?_)))))))
    refine bI f0 (bI f1 (bI f2 (bI f3 (bI f4 (bT f5 (bs e2 (bB rfl (ifF (by decide) ?_))))))))
    rw [w64i (n := (i : Int) + 1) (by omega) (by omega)]
    rfl
theorem eqInsS_run {base : Nat} {h : AH} {l : List In} {a b : Option Addr} (hl : l.length ≤ 9223372036854775807) (hs : Sl h a (insR l)) (hs2 : Sl h b (insR l)) (hb : base ≤ h.length) :
    ∃ h', run (Et base) 25 [.slice a l.length l.length, .slice b l.length l.length] h = some (.bool true, h') ∧ KB NoB h h' := by
  obtain ⟨h', y1, y2⟩ := eqInsS_loop (base := base) hl l.length 0 h (by omega) hs hs2 hb
  refine ⟨h', r25 (ifF (by simp) ?_), y2⟩
  exact bs y1 (ifF (show ¬ (2 : Nat) = 1 by decide) (ifT rfl rfl))

/-! marked -/
def markI (k : Int) : In := ⟨k, k + 1, k + 1 + 1, k + 1 + 1 + 1, k + 1 + 1 + 1 + 1, mt (k + 1 + 1 + 1 + 1 + 1)⟩
theorem markInsS_loop {base n : Nat} (hn : n ≤ 1048576) {a : Option Addr} : ∀ (d i : Nat) (h : AH) (ys : List In) (k : Int), i + d = n → ys.length = n → Own base 116 h a (insR ys) → 0 ≤ k → k + 6 * (d : Int) ≤ 1000000000 →
    (∀ j, j < i → ys[j]? = some (markI (k - 6 * ((i : Int) - (j : Int))))) →
    ∃ ys' h', loopL (B26_0 base) [some (.slice a n n), some (.int .i64 k), some (.int .i64 (i : Int))] h = some (2, [some (.int .i64 (k + 6 * (d : Int)))], h') ∧ Own base 116 h' a (insR ys') ∧ ys'.length = n ∧ (∀ j, j < n → ys'[j]? = some (markI (k + 6 * (d : Int) - 6 * ((n : Int) - (j : Int))))) ∧ KB (blk a) h h' := by
  intro d
  induction d with
  | zero =>
    intro i h ys k hi hy ow h0 hk hm
    have : i = n := by omega
    subst this
    refine ⟨ys, h, ?_, ow, hy, fun j hj => by rw [hm j hj]; simp, KB.refl _ _⟩
    refine loop_off (by decide) ?_
    rw [B26_0_eq]
    exact ifF (by simp) (by simp)
  | succ d ihd =>
    intro i h ys k hi hy ow h0 hk hm
    have hlt : i < ys.length := by omega
    have hR := insR_len ys
    obtain ⟨ad, h1, ea, e1, o1, k1, l1⟩ := ow.wr (i := i * 6 + 0) (new := [.int .i64 k]) (by simp; omega) (by simp)
    subst ea
    obtain ⟨ad', h2, ea, e2, o2, k2, l2⟩ := o1.wr (i := i * 6 + 1) (new := [.int .i64 (k + 1)]) (by simp [setAt]; omega) (by simp)
    injection ea with ea; subst ea
    obtain ⟨ad', h3, ea, e3, o3, k3, l3⟩ := o2.wr (i := i * 6 + 2) (new := [.int .i64 (k + 1 + 1)]) (by simp [setAt]; omega) (by simp)
    injection ea with ea; subst ea
    obtain ⟨ad', h4, ea, e4, o4, k4, l4⟩ := o3.wr (i := i * 6 + 3) (new := [.int .i64 (k + 1 + 1 + 1)]) (by simp [setAt]; omega) (by simp)
    injection ea with ea; subst ea
    obtain ⟨ad', h5, ea, e5, o5, k5, l5⟩ := o4.wr (i := i * 6 + 4) (new := [.int .i64 (k + 1 + 1 + 1 + 1)]) (by simp [setAt]; omega) (by simp)
    injection ea with ea; subst ea
    obtain ⟨h6, e6, k6⟩ := markText_run (base := base) (h := h5) (k := k + 1 + 1 + 1 + 1 + 1) (by omega)
    obtain ⟨ad', h7, ea, e7, o7, k7, l7⟩ := (o5.keepN k6).wr (i := i * 6 + 5) (new := [.string (mt (k + 1 + 1 + 1 + 1 + 1))]) (by simp [setAt]; omega) (by simp)
    injection ea with ea; subst ea
    have hset : setAt (setAt (setAt (setAt (setAt (setAt (insR ys) (i * 6 + 0) [.int .i64 k]) (i * 6 + 1) [.int .i64 (k + 1)]) (i * 6 + 2) [.int .i64 (k + 1 + 1)]) (i * 6 + 3) [.int .i64 (k + 1 + 1 + 1)]) (i * 6 + 4) [.int .i64 (k + 1 + 1 + 1 + 1)]) (i * 6 + 5) [.string (mt (k + 1 + 1 + 1 + 1 + 1))] = insR (ys.set i (markI k)) := by
      rw [← insR_set hlt]
      apply List.ext_getElem?
      intro j
      have z1 : ∀ (vs : List Value) (o : Nat) (v : Value), o + 1 ≤ vs.length → (setAt vs o [v])[j]? = if o = j then some v else vs[j]? := by
        intro vs o v ho
        rw [setAt_get (by simpa using ho)]
        by_cases c : o = j
        · subst c; simp
        · rw [if_neg c, if_neg (by simp; omega)]
      rw [z1 _ _ _ (by simp [setAt]; omega), z1 _ _ _ (by simp [setAt]; omega), z1 _ _ _ (by simp [setAt]; omega), z1 _ _ _ (by simp [setAt]; omega), z1 _ _ _ (by simp [setAt]; omega), z1 _ _ _ (by simp; omega), setAt_get (by simp; omega)]
      by_cases hin : i * 6 ≤ j ∧ j < i * 6 + (inV (markI k)).length
      · rw [if_pos hin]
        have hj6 : j - i * 6 < 6 := by have := hin.2; simp at this; omega
        obtain ⟨q, rfl⟩ : ∃ q, j = i * 6 + q := ⟨j - i * 6, by omega⟩
        rw [show i * 6 + q - i * 6 = q from by omega] at hj6 ⊢
        match q, hj6 with
        | 0, _ => simp [markI]
        | 1, _ => simp [markI]
        | 2, _ => simp [markI]
        | 3, _ => simp [markI]
        | 4, _ => simp [markI]
        | 5, _ => simp [markI]
      · rw [if_neg hin, if_neg, if_neg, if_neg, if_neg, if_neg, if_neg] <;> (intro e; apply hin; simp; omega)
    rw [hset] at o7
    have kA : KB (blk (some ad)) h h7 := KB.trans (KB.trans (KB.trans (KB.trans (KB.trans (KB.trans k1 k2 (fun _ _ h => h) (fun _ _ h => h)) k3 (fun _ _ h => h) (fun _ _ h => h)) k4 (fun _ _ h => h) (fun _ _ h => h)) k5 (fun _ _ h => h) (fun _ _ h => h)) k6 (fun _ _ h => h) (fun _ _ h => h.elim)) k7 (fun _ _ h => h) (fun _ _ h => h)
    obtain ⟨ys', h8, y1, y2, y3, y4, y5⟩ := ihd (i + 1) h7 (ys.set i (markI k)) (k + 6) (by omega) (by simpa using hy) o7 (by omega) (by omega) (fun j hj => by
      by_cases c : j = i
      · subst c
        rw [List.getElem?_set_self hlt, show k + 6 - 6 * (((j + 1 : Nat) : Int) - (j : Int)) = k from by omega]
      · rw [List.getElem?_set_ne (by omega), hm j (by omega), show k + 6 - 6 * (((i + 1 : Nat) : Int) - (j : Int)) = k - 6 * ((i : Int) - (j : Int)) from by omega])
    have ek : k + 6 + 6 * (d : Int) = k + 6 * ((d + 1 : Nat) : Int) := by omega
    rw [ek] at y1 y4
    refine ⟨ys', h8, loop_on ?_ y1, y2, y3, y4, KB.trans kA y5 (fun _ _ h => h) (fun _ _ h => h)⟩
    rw [B26_0_eq]
    refine ifT (decide_eq_true (by omega)) (ifT ⟨by omega, by omega⟩ (bs rfl ?_))
    simp only [Int.toNat_natCast]
    rw [w64i (n := k + 1) (by omega) (by omega), w64i (n := k + 1 + 1) (by omega) (by omega), w64i (n := k + 1 + 1 + 1) (by omega) (by omega), w64i (n := k + 1 + 1 + 1 + 1) (by omega) (by omega), w64i (n := k + 1 + 1 + 1 + 1 + 1) (by omega) (by omega), w64i (n := k + 1 + 1 + 1 + 1 + 1 + 1) (by omega) (by omega), w64i (n := (i : Int) + 1) (by omega) (by omega)]
    refine bs (by rw [Nat.add_assoc]; exact e1) (ifT ⟨by omega, by omega⟩ (bs rfl (bs (by rw [Nat.add_assoc]; exact e2) (ifT ⟨by omega, by omega⟩ (bs rfl (bs (by rw [Nat.add_assoc]; exact e3) (ifT ⟨by omega, by omega⟩ (bs rfl (bs (by rw [Nat.add_assoc]; exact e4) (ifT ⟨by omega, by omega⟩ (bs rfl (bs (by rw [Nat.add_assoc]; exact e5) (bs e6 (bT rfl (ifT ⟨by omega, by omega⟩ (bs rfl (bs (by rw [Nat.add_assoc]; exact e7) ?_)))))))))))))))))
    show some _ = some _
    rw [show k + 1 + 1 + 1 + 1 + 1 + 1 = k + 6 from by omega]
    rfl
theorem markInsS_run {base : Nat} {h : AH} {a : Option Addr} {ys : List In} {k : Int} (hn : ys.length ≤ 1048576) (ow : Own base 116 h a (insR ys)) (h0 : 0 ≤ k) (hk : k + 6 * (ys.length : Int) ≤ 1000000000) :
    ∃ ys' h', run (Et base) 26 [.slice a ys.length ys.length, .int .i64 k] h = some (.int .i64 (k + 6 * (ys.length : Int)), h') ∧ Own base 116 h' a (insR ys') ∧ ys'.length = ys.length ∧ (∀ j : Nat, j < ys.length → ys'[j]? = some (markI (k + 6 * (j : Int)))) ∧ KB (blk a) h h' := by
  obtain ⟨ys', h', y1, y2, y3, y4, y5⟩ := markInsS_loop (base := base) hn ys.length 0 h ys k (by omega) rfl ow h0 hk (fun j hj => by omega)
  refine ⟨ys', h', r26 (bs y1 (ifT rfl (bI rfl rfl))), y2, y3, fun j hj => ?_, y5⟩
  rw [y4 j hj, show k + 6 * (ys.length : Int) - 6 * ((ys.length : Int) - (j : Int)) = k + 6 * (j : Int) from by omega]
end Go.Proofs.Ytnmjhhipbfngkaa.Am
