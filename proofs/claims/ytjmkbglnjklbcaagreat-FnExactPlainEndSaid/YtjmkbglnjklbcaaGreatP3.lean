/- What the functions of this law compute, lemma by lemma, up to the law.
Conditions: none. -/
import Derived.Test.YtjmkbglnjklbcaaGreatP2
import Derived.IntWalk
import Derived.Laws.BitsLemmas

set_option linter.unusedSimpArgs false
set_option linter.unusedVariables false
namespace Go.Proofs.YtjmkbglnjklbcaaGreat.Am
open Go Go.RowKit
theorem copyIntsO_run {base : Nat} {h : AH} {a : Option Addr} {xs : List Int} (hs : Sl h a (iv .i64 xs)) (hl : xs.length ≤ 1048576 * 4) (hb : base ≤ h.length) :
  ∃ a' h', run (Et base) 148 [.slice a xs.length xs.length] h = some (.slice a' xs.length xs.length, h') ∧ Own base 3 h' a' (iv .i64 xs) ∧ KB NoB h h' ∧ (∀ b, blk a' b → h.length ≤ b) := by
 have hr : rawAt h a (xs.length * 1) = some (iv .i64 xs) := by
  have := hs.raw (iv_leaf _ _)
  simpa using this
 obtain ⟨a1, h1, g1, g2, g3, g4⟩ := Own.app (x := (.inl ⟨rfl, rfl⟩ : Own base 3 h none [])) (bytes := 8) (n := 0) (m := xs.length) (sz := 1) (by simp) (by simp) hr hb (by omega) (by omega) (by simp)
 simp only [Nat.zero_add, List.nil_append] at g1 g2
 refine ⟨a1, h1, Am.r148 (Am.bs g1 (Am.bS rfl rfl)), g2, g3.mono (fun i hi ⟨ad, e, _⟩ => by cases e), fun b hb' => ?_⟩
 rcases g4 with ⟨_, e, _⟩ | g4
 ·rw [e] at hb'; obtain ⟨_, e, _⟩ := hb'; cases e
 ·have := g4 b hb'; omega
theorem copyActor_run {base f : Nat} {h : AH} {p : Nat → Prop} {A : Ac} {cs : List Value} (hB : AcB f A) (x : AcR h p f A cs) (hb : base ≤ h.length) (hp : ∀ b, p b → b < h.length) :
  ∃ cs' h', run (Et base) 111 [.agg cs.toArray] h = some (.agg cs'.toArray, h') ∧ AcG base f (iS h.length h'.length) h' A cs' ∧ KB NoB h h' := by
 obtain ⟨a, b, g, rfl, hr, hx, hl, hlb⟩ := x
 obtain ⟨m1, m2, m3, m4, m5⟩ := hB
 suffices w : Wp (run (Et base) 111 [.agg (acV A.pid A.pc a A.regs.length b A.box.length g A.links.length).toArray] h) fun r => ∃ cs', r.1 = .agg cs'.toArray ∧ AcG base f (iS h.length r.2.length) r.2 A cs' ∧ KB NoB h r.2 by
  obtain ⟨⟨u, h'⟩, e, cs', rfl, q⟩ := w
  exact ⟨cs', h', e, q⟩
 refine W.of (fun r hx => Am.r111 hx) ?_
 refine W.box hb fun h1 o1 k1 q1 => W.box (base := base) (by omega) fun h2 o2 k2 q2 => W.bS ((o1.keepN k2).at0 (i := 2) rfl) ?_
 have o1 := o1.keepN k2
 have k02 := kN k1 k2
 obtain ⟨a3, h3, e3, r3, k3⟩ := copyTerms_run (base := base) (copyTermG_run f) m1 m4 (hr.keep k02 fun _ _ h => h) (by omega) (fun b hb => by have := hp b hb; omega)
 have n3 := k3.1
 have k03 := kN k02 k3
 refine W.bs e3 (W.bS rfl (W.gt (same_keep k3 (o1.at0 (i := 3) rfl)) (W.bS ((o1.keepN k3).at0 (i := 3) rfl) ?_)))
 obtain ⟨a4, h4, e4, r4, k4⟩ := copyTerms_run (base := base) (copyTermG_run f) m2 m5 (hx.keep k03 fun _ _ h => h) (by omega) (fun b hb => by have := hp b hb; omega)
 have n4 := k4.1
 have k04 := kN k03 k4
 have o4 := (o1.keepN k3).keepN k4
 refine W.bs e4 (W.bS rfl (W.gt (same_keep k4 ((o1.keepN k3).at0 (i := 4) rfl)) (W.gt (same_keep (kN k3 k4) (o1.at0 (i := 4) rfl)) (W.bS (o4.at0 (i := 4) rfl) ?_))))
 obtain ⟨a5, h5, e5, r5, k5, f5⟩ := copyIntsO_run (base := base) (hl.keepN k04) (by omega) (by omega)
 have n5 := k5.1
 have k05 := kN k04 k5
 refine W.bs e5 (W.bS rfl (W.wr0 (o4.keepN k5) (by simp) (by simp) fun h6 o6 k6 l6 => W.wr0 o6 (by simp [setAt]) (by simp) fun h7 o7 k7 l7 => W.wr0 o7 (by simp [setAt]) (by simp) fun h8 o8 k8 l8 => ?_))
 have hset : setAt (setAt (setAt (acV A.pid A.pc a A.regs.length b A.box.length g A.links.length) 2 [.slice a3 A.regs.length A.regs.length]) 3 [.slice a4 A.box.length A.box.length]) 4 [.slice a5 A.links.length A.links.length] = acV A.pid A.pc a3 A.regs.length a4 A.box.length a5 A.links.length := rfl
 rw [hset] at o8
 have k58 : KB (· = h.length) h5 h8 := KB.trans (KB.trans k6 k7 (fun _ _ h => h) (fun _ _ h => h)) k8 (fun _ _ h => h) (fun _ _ h => h)
 refine W.bI (o8.at0 (i := 0) rfl) (W.bI (o8.at0 (i := 1) rfl) (W.bS (o8.at0 (i := 2) rfl) (W.bS (o8.at0 (i := 3) rfl) (W.bS (o8.at0 (i := 4) rfl) ?_))))
 have z8 := (((o2.keepN k3).keepN k4).keepN k5).keepB k58 fun i hi => by rw [blk_at0] at hi; omega
 refine W.wr0 z8 (by simp) (by simp) fun h9 o9 k9 l9 => ?_
 have hz : setAt (acV 0 0 none 0 none 0 none 0) 0 (acV A.pid A.pc a3 A.regs.length a4 A.box.length a5 A.links.length) = acV A.pid A.pc a3 A.regs.length a4 A.box.length a5 A.links.length := rfl
 rw [hz] at o9
 refine W.bI (o9.at0 (i := 0) rfl) (W.bI (o9.at0 (i := 1) rfl) (W.bS (o9.at0 (i := 2) rfl) (W.bS (o9.at0 (i := 3) rfl) (W.bS (o9.at0 (i := 4) rfl) (W.ret ⟨_, rfl, ?_, ?_⟩)))))
 ·have n9 : h9.length = h5.length := l9.trans (l8.trans (l7.trans l6))
  refine ⟨a3, a4, a5, iS h2.length h3.length, iS h3.length h4.length, iS h4.length h5.length, rfl, ((((r3.keep (TmG.kp _ _) k4 fun _ _ h => h).keep (TmG.kp _ _) k5 fun _ _ h => h).keep (TmG.kp _ _) k58 fun b hb hk => by omega).keep (TmG.kp _ _) k9 fun b hb hk => by omega),
   (((r4.keep (TmG.kp _ _) k5 fun _ _ h => h).keep (TmG.kp _ _) k58 fun b hb hk => by omega).keep (TmG.kp _ _) k9 fun b hb hk => by omega), (r5.keepB k58 fun b hb => by have := f5 b hb; omega).keepB k9 fun b hb => by have := f5 b hb; omega, fun b hb => ⟨f5 b hb, (r5.lt hb).2⟩, fun b hb => ⟨by omega, by show b < h9.length; omega⟩, fun b hb => ⟨by omega, by show b < h9.length; omega⟩, fun b hb => ⟨by omega, by show b < h9.length; omega⟩, fun b h1 h2 => by omega, fun b h1 h2 => by omega, fun b h1 h2 => by omega⟩
 ·exact kFresh (kFresh k05 k58 fun i hi => by omega) k9 fun i hi => by omega
theorem q7 {base t n : Nat} {h : AH} {kd pid pc k nn : Int} {s : ByteArray} {a : Option Addr} {m : Nat} (o : Own base t h (at0 n) (actV kd pid pc k nn s a m)) {β : Type} {Q : β → Prop} {f : Int → Int → Int → Int → Int → ByteArray → Option Addr × Nat → Option β} (w : Wp (f kd pid pc k nn s (a, m)) Q) :
  Wp (((Am.cell h n 0).bind (getI .i64)).bind fun n1 => ((Am.cell h n 1).bind (getI .i64)).bind fun n2 => ((Am.cell h n 2).bind (getI .i64)).bind fun n3 => ((Am.cell h n 3).bind (getI .i64)).bind fun n4 => ((Am.cell h n 4).bind (getI .i64)).bind fun n5 => ((Am.cell h n 5).bind getStr).bind fun s6 => ((Am.cell h n 6).bind getS).bind fun l7 => f n1 n2 n3 n4 n5 s6 l7) Q :=
 W.bI (o.at0 (i := 0) rfl) (W.bI (o.at0 (i := 1) rfl) (W.bI (o.at0 (i := 2) rfl) (W.bI (o.at0 (i := 3) rfl) (W.bI (o.at0 (i := 4) rfl) (W.bT (o.at0 (i := 5) rfl) (W.bS (o.at0 (i := 6) rfl) w))))))
end Go.Proofs.YtjmkbglnjklbcaaGreat.Am
set_option linter.unusedSimpArgs false
set_option linter.unusedVariables false
namespace Go.Proofs.YtjmkbglnjklbcaaGreat.Am
open Go Go.RowKit
theorem TmG.parts {base f : Nat} {S : Fp} {h : AH} {t : Tm} {k n : Int} {s : ByteArray} {a : Option Addr} {m : Nat} (x : TmG base (f + 1) S h t (termV k n s a m)) : ∃ l, t = .mk k n s l ∧ m = l.length ∧ s.size ≤ maxLen ∧ l.length ≤ maxLen ∧ RowO base 42 4 (TmG base f) S h l a := by
 obtain ⟨k', n', s', l⟩ := t
 obtain ⟨h1, h2, a', ecs, r⟩ := x
 injection ecs with q0 ecs
 injection ecs with q1 ecs
 injection ecs with q2 ecs
 injection ecs with q3 _
 injection q0 with _ q0; injection q1 with _ q1; injection q2 with q2; injection q3 with q3 q4 _
 subst q0; subst q1; subst q2; subst q3
 exact ⟨l, rfl, q4, h1, h2, r⟩
end Go.Proofs.YtjmkbglnjklbcaaGreat.Am
set_option linter.unusedSimpArgs false
set_option linter.unusedVariables false
namespace Go.Proofs.YtjmkbglnjklbcaaGreat.Am
open Go Go.RowKit
section
variable {α : Type} {w : Nat} {P : Fp → AH → α → List Value → Prop}
theorem RowO.imp {Q : Fp → AH → α → List Value → Prop} {base t : Nat} {S : Fp} {h : AH} {l : List α} {a : Option Addr} (hPQ : ∀ S h x cs, P S h x cs → Q S h x cs) (x : RowO base t w P S h l a) : RowO base t w Q S h l a := by
 obtain ⟨vs, T, x1, x2, x3, x4, x5⟩ := x
 exact ⟨vs, T, x1, x2, x3, x4, x5.imp hPQ⟩
theorem Own.wrA {base t : Nat} {h : AH} {a : Option Addr} {vs : List Value} (x : Own base t h a vs) {i : Nat} {new : List Value} (hi : i + new.length ≤ vs.length) (h0 : 0 < new.length) :
  ∃ ad h', a = some ad ∧ Am.wr base h ad.block (ad.off + i) new = some h' ∧ Own base t h' a (setAt vs i new) ∧ KB (blk a) h h' ∧ h'.length = h.length := by
 obtain ⟨ad, h', e, h1, h2, h3, h4⟩ := x.wr hi h0
 exact ⟨ad, h', e, h1, h2, h3, h4⟩
theorem RowO.put (kp : Kp P) {base t : Nat} {S C : Fp} {h : AH} {l : List α} {a : Option Addr} (x : RowO base t w P S h l a) {i : Nat} (hi : i < l.length) {y : α} {cs : List Value} (hy : P C h y cs) (hc : cs.length = w) (hw : 0 < w) (hC : ∀ b, C b → ¬ S b) :
  ∃ ad h', a = some ad ∧ Am.wr base h ad.block (ad.off + i * w) cs = some h' ∧ RowO base t w P (fun b => S b ∨ C b) h' (l.set i y) a ∧ KB (blk a) h h' ∧ h'.length = h.length := by
 obtain ⟨vs, T, x1, x2, x3, x4, C0, c1, c2, c3⟩ := x
 have hle := mul_le' (w := w) hi
 obtain ⟨ad, h', e, w1, w2, w3, w4⟩ := x1.wrA (i := i * w) (new := cs) (by omega) (by omega)
 refine ⟨ad, h', e, w1, ⟨setAt vs (i * w) cs, fun b => T b ∨ C b, w2, by simp [setAt]; omega, fun b hb => ⟨.inl (x3 b hb).1, fun hh => ?_⟩, fun b hb => hb.imp (x4 b) id, fun q b => if q = i then C b else C0 q b, fun q b hb => ?_, fun q j b hq hb hb' => ?_, fun q z hz => ?_⟩, w3, w4⟩
 ·rcases hh with hh | hh
  ·exact (x3 b hb).2 hh
  ·exact hC b hh (x3 b hb).1
 ·simp only at hb
  split at hb
  ·exact .inr hb
  ·exact .inl (c1 q b hb)
 ·simp only at hb hb'
  split at hb
  ·split at hb'
   ·omega
   ·exact hC b hb (x4 b (c1 j b hb'))
  ·split at hb'
   ·exact hC b hb' (x4 b (c1 q b hb))
   ·exact c2 q j b hq hb hb'
 ·by_cases eq : q = i
  ·subst eq
   rw [List.getElem?_set_self hi] at hz
   injection hz with hz
   subst hz
   have ee : (fun b => if q = q then C b else C0 q b) = C := by funext b; simp
   show P (fun b => if q = q then C b else C0 q b) h' y (chunk w q (setAt vs (q * w) cs))
   rw [ee, chunk_setAt_self hc (by omega)]
   exact kp _ _ _ _ _ _ w3 (fun b hb hk => hC b hb (x3 b hk).1) hy
  ·rw [List.getElem?_set_ne (by omega)] at hz
   have ee : (fun b => if q = i then C b else C0 q b) = C0 q := by funext b; simp [eq]
   show P (fun b => if q = i then C b else C0 q b) h' z (chunk w q (setAt vs (i * w) cs))
   rw [ee, chunk_setAt_other hc (by omega) eq]
   exact kp _ _ _ _ _ _ w3 (fun b hb hk => (x3 b hk).2 (c1 q b hb)) (c3 q z hz)
theorem RowO.uncons (kp : Mo P) {base t : Nat} {S : Fp} {h : AH} {x : α} {l : List α} {a : Option Addr} (r : RowO base t w P S h (x :: l) a) (hw : 0 < w) :
  ∃ C cs ad, P C h x cs ∧ a = some ad ∧ (∀ j v, cs[j]? = some v → Am.cell h ad.block (ad.off + j) = some v) ∧ (∀ b, C b → S b) ∧ (∀ b, blk a b → ¬ C b) ∧ RowO base t w P (fun b => S b ∧ ¬ C b) h l (shiftA a (1 * w)) := by
 obtain ⟨vs, T, x1, x2, x3, x4, C0, c1, c2, c3⟩ := r
 simp only [List.length_cons] at x2
 have x2 : vs.length = l.length * w + w := by rw [x2, Nat.add_one_mul]
 rcases x1 with ⟨_, e⟩ | ⟨ad, k, e1, e2, e3, e4, e5, e6⟩
 ·subst e; simp at x2; omega
 have bs : ∀ b, blk (shiftA a (1 * w)) b → blk a b := fun b hb => by
  obtain ⟨ad, e, hb⟩ := hb
  cases a with
  | none => cases e
  | some a0 =>
   injection e with e
   subst e
   exact ⟨a0, rfl, hb⟩
 refine ⟨C0 0, chunk w 0 vs, ad, c3 0 x rfl, e1, fun j v hj => ?_, fun b hb => x4 b (c1 0 b hb), fun b hb hc => (x3 b hb).2 (c1 0 b hc), vs.drop w, fun b => T b ∧ ¬ C0 0 b, ?_, by simp [x2], fun b hb => ?_, fun b hb => ⟨x4 b hb.1, hb.2⟩, fun q => C0 (q + 1), fun q b hb => ⟨c1 _ b hb, fun hh => c2 _ _ b (by omega) hb hh⟩, fun q j b hq hb => c2 _ _ b (by omega) hb, fun q z hz => ?_⟩
 ·have hj' : j < w := by have := (List.getElem?_eq_some_iff.1 hj).1; simp [chunk] at this; omega
  rw [chunk, List.getElem?_take_of_lt hj', List.getElem?_drop, Nat.zero_mul, Nat.zero_add] at hj
  have := e6 _ _ hj
  simp [Am.cell, e3, this]
 ·subst e1
  refine .inr ⟨_, k, rfl, e2, e3, e4, by simp [x2]; omega, fun i v hi => ?_⟩
  rw [List.getElem?_drop] at hi
  have := e6 _ _ hi
  simp only [Nat.one_mul, Nat.add_assoc]
  exact this
 ·have := x3 b (bs b hb)
  exact ⟨⟨this.1, fun hh => this.2 (c1 0 b hh)⟩, fun hh => this.2 hh.1⟩
 ·have := c3 (q + 1) z (by simpa using hz)
  have e : chunk w q (vs.drop w) = chunk w (q + 1) vs := by
   simp only [chunk, List.drop_drop]
   congr 2
   rw [Nat.add_one_mul]; omega
  rw [e]
  exact this
end
theorem TmG.le {base : Nat} : ∀ {f f' : Nat} (hf : f ≤ f') {S : Fp} {h : AH} {t : Tm} {cs : List Value}, TmG base f S h t cs → TmG base f' S h t cs
 | 0, _, _, _, _, _, _, x => x.elim
 | f + 1, 0, hf, _, _, _, _, _ => absurd hf (Nat.not_succ_le_zero _)
 | f + 1, f' + 1, hf, S, h, .mk k n s l, cs, x => by
  obtain ⟨h1, h2, a, e, r⟩ := x
  exact ⟨h1, h2, a, e, r.imp fun _ _ _ _ => TmG.le (Nat.le_of_succ_le_succ hf)⟩
theorem AcG.le {base f f' : Nat} (hf : f ≤ f') {S : Fp} {h : AH} {A : Ac} {cs : List Value} (x : AcG base f S h A cs) : AcG base f' S h A cs := by
 obtain ⟨a, b, g, S1, S2, S3, e, h1, h2, h3⟩ := x
 exact ⟨a, b, g, S1, S2, S3, e, h1.imp fun _ _ _ _ => TmG.le hf, h2.imp fun _ _ _ _ => TmG.le hf, h3⟩
theorem AcG.take {base f : Nat} {S : Fp} {h : AH} {A : Ac} {cs : List Value} (x : AcG base f S h A cs) {i : Nat} (hi : i < A.regs.length) {t : Tm} {B : List Tm} (eB : A.box = t :: B) :
  ∃ a b g k n s a' m h', cs = acV A.pid A.pc (some a) A.regs.length (some b) A.box.length g A.links.length ∧ Am.cell h b.block b.off = some (.int .i64 k) ∧ Am.cell h b.block (b.off + 1) = some (.int .i64 n) ∧ Am.cell h b.block (b.off + 1 + 1) = some (.string s) ∧ Am.cell h b.block (b.off + 1 + 1 + 1) = some (.slice a' m m) ∧
   Am.wr base h a.block (a.off + i * 4) (termV k n s a' m) = some h' ∧ (∀ q, okTy base h' (some b) 42 q = true) ∧ AcG base f S h' ⟨A.pid, A.pc, A.regs.set i t, B, A.links⟩ (acV A.pid A.pc (some a) A.regs.length (shiftA (some b) (1 * 4)) B.length g A.links.length) ∧ KB S h h' ∧ h'.length = h.length := by
 obtain ⟨a, b, g, S1, S2, S3, rfl, r1, r2, r3, hg, s1, s2, s3, d1, d2, d3⟩ := x
 have r2' := r2
 rw [eB] at r2'
 have hb1 : ∀ b, blk a b → S1 b := by obtain ⟨vs, T, w1, w2, w3, _⟩ := r1; exact fun b hb => (w3 b hb).1
 have hb2 : ∀ x, blk b x → S2 x := by obtain ⟨vs, T, w1, w2, w3, _⟩ := r2; exact fun b hb => (w3 b hb).1
 obtain ⟨C, tcs, bd, hC, rfl, cells, hCS, hCb, rt⟩ := r2'.uncons (TmG.mo _ _) (by decide)
 obtain ⟨k, n, s, a', m, rfl⟩ := hC.form
 obtain ⟨ad, h', rfl, w1, w2, w3, w4⟩ := r1.put (TmG.kp _ _) hi hC rfl (by decide) fun b hb hs => d1 b hs (hCS b hb)
 have rt' := rt.keep (TmG.kp _ _) w3 fun b hb hk => d1 b (hb1 b hk) hb.1
 refine ⟨ad, bd, g, k, n, s, a', m, h', rfl, by simpa using cells 0 _ rfl, cells 1 _ rfl, cells 2 _ rfl, cells 3 _ rfl, w1, fun q => (r2.keep (TmG.kp _ _) w3 fun b hb hk => d1 b (hb1 b hk) hb).tyOk q, ⟨some ad, shiftA (some bd) (1 * 4), g, fun b => S1 b ∨ C b, fun b => S2 b ∧ ¬ C b, S3, by simp, w2, rt', r3.keep w3 fun b hb hk => d2 b (hb1 b hk) (hg b hb), hg, fun b hb => hb.elim (s1 b) fun hb => s2 b (hCS b hb), fun b hb => s2 b hb.1, s3, fun b hb hs => ?_, fun b hb hs => ?_, fun b hb => d3 b hb.1⟩, w3.mono fun b _ hb => s1 b (hb1 b hb), w4⟩
 ·rcases hb with hb | hb
  ·exact d1 b hb hs.1
  ·exact hs.2 hb
 ·rcases hb with hb | hb
  ·exact d2 b hb hs
  ·exact d3 b (hCS b hb) hs
end Go.Proofs.YtjmkbglnjklbcaaGreat.Am
set_option linter.unusedSimpArgs false
set_option linter.unusedVariables false
namespace Go.Proofs.YtjmkbglnjklbcaaGreat.Am
open Go Go.RowKit
theorem l9CopyTerms_loop {base f : Nat} {p : Nat → Prop} {l : List Tm} {a : Option Addr} {lo : Nat} (hl : l.length ≤ 1048576) (hB : ∀ t ∈ l, TmB f t) (hp : ∀ b, p b → b < lo) (hlo : base ≤ lo) : ∀ (d i : Nat) (h : AH) (ao : Option Addr) (S : Fp), i + d = l.length → TsR h p f l a → lo ≤ h.length → RowO base 42 4 (TmG base f) S h (l.take i) ao → (∀ b, S b → lo ≤ b ∧ b < h.length) →
  Wp (loopL (B156_0 base) [some (.slice a l.length l.length), some (.slice ao i i), some (.int .i64 (i : Int))] h) fun o => ∃ a' S', o.1 = 2 ∧ o.2.1 = [some (.slice a' l.length l.length)] ∧ RowO base 42 4 (TmG base f) S' o.2.2 l a' ∧ (∀ b, S' b → lo ≤ b ∧ b < o.2.2.length) ∧ KB (fun b => lo ≤ b) h o.2.2 := by
 intro d
 induction d with
 | zero =>
  intro i h ao S hi hs hlh r hS
  have hi' : i = l.length := by omega
  subst hi'
  rw [List.take_of_length_le (Nat.le_refl _)] at r
  refine ⟨_, loop_off (by decide) (s' := [some (.slice ao l.length l.length)]) (h' := h) (e := 2) ?_, ao, S, rfl, rfl, r, hS, KB.refl _ _⟩
  rw [B156_0_eq]
  exact Am.ifF (by simp) rfl
 | succ d ihd =>
  intro i h ao S hi hs hlh r hS
  have hlt : i < l.length := by omega
  obtain ⟨ad, k, n, s, a2, m, rfl, g0, g1, g2, g3, hm⟩ := hs.getT hlt
  obtain ⟨cs2, h2, e2, t2, k2⟩ := l1CopyG_run (base := base) f h p _ _ hm (hB _ (List.getElem_mem hlt)) (by omega) (fun b hb => by have := hp b hb; omega)
  obtain ⟨k', n', s', a', m', rfl⟩ := t2.form
  have n2 := k2.1
  have elen : (l.take i).length = i := by simp; omega
  obtain ⟨a3, h3, e3, r3, k3, n3⟩ := (r.keep (TmG.kp _ _) k2 fun _ _ h => h).app1 (TmG.kp _ _) (bytes := 56) t2 rfl (by decide) rfl (fun b hb hs => by have := hS b hs; omega) (fun b hb => hb.2) (fun b hb => by have := hS b hb; omega) (by omega) (by rw [elen]; omega) (by rw [elen]; omega)
  rw [elen] at e3
  rw [← take_snoc hlt] at r3
  have hbo : ∀ b, blk ao b → lo ≤ b := by obtain ⟨vs, T, w1, w2, w3, _⟩ := r; exact fun b hb => (hS b (w3 b hb).1).1
  have k03 : KB (fun b => lo ≤ b) h h3 := KB.trans k2 k3 (fun _ _ h => h.elim) (fun b _ hb => hbo b hb)
  obtain ⟨o, eo, a4, S4, y1, y2, y3, y4, y5⟩ := ihd (i + 1) h3 a3 _ (by omega) (hs.keep k03 fun b h1 h2 => by have := hp b h1; omega) (by omega) r3 (fun b hb => by
   rcases hb with hb | hb | hb
   ·have := hS b hb; omega
   ·omega
   ·omega)
  refine ⟨o, loop_on ?_ eo, a4, S4, y1, y2, y3, y4, KB.trans k03 y5 (fun _ _ h => h) (fun _ _ h => h)⟩
  rw [B156_0_eq]
  refine Am.ifT (decide_eq_true (by omega)) (Am.ifT ⟨by omega, by omega⟩ (Am.bs rfl ?_))
  simp only [Int.toNat_natCast]
  refine Am.bI g0 (Am.bI g1 (Am.bT g2 (Am.bS g3 (Am.bs e2 (Am.bs (v := termV k' n' s' a' m') rfl (Am.bI rfl (Am.bI rfl (Am.bT rfl (Am.bS rfl (Am.bs rfl (Am.bs e3 (Am.bS rfl ?_))))))))))))
  rw [w64i (n := (i : Int) + 1) (by omega) (by omega)]
  rfl
theorem l9CopyTerms_run {base f : Nat} {h : AH} {p : Nat → Prop} {l : List Tm} {a : Option Addr} (hl : l.length ≤ 1048576) (hB : ∀ t ∈ l, TmB f t) (hs : TsR h p f l a) (hb : base ≤ h.length) (hp : ∀ b, p b → b < h.length) :
  ∃ a' h', run (Et base) 156 [.slice a l.length l.length] h = some (.slice a' l.length l.length, h') ∧ RowO base 42 4 (TmG base f) (iS h.length h'.length) h' l a' ∧ KB NoB h h' := by
 suffices w : Wp (run (Et base) 156 [.slice a l.length l.length] h) fun o => ∃ a', o.1 = .slice a' l.length l.length ∧ RowO base 42 4 (TmG base f) (iS h.length o.2.length) o.2 l a' ∧ KB NoB h o.2 by
  obtain ⟨⟨u, h'⟩, e, a', rfl, q⟩ := w
  exact ⟨a', h', e, q⟩
 refine W.of (fun r hx => Am.r156 hx) ?_
 refine W.box hb fun h1 o1 k1 q1 => ?_
 obtain ⟨o, e, a', S', y1, y2, y3, y4, y5⟩ := l9CopyTerms_loop (base := base) hl hB hp hb l.length 0 h1 (at0 h.length) (· = h.length) (by omega) (hs.keep k1 fun _ _ h => h) (by omega) ⟨[], fun _ => False, o1, by simp, fun b hb => ⟨blk_at0.1 hb, fun h => h⟩, fun _ h => h.elim, Chunks.nil⟩ (fun b hb => by omega)
 obtain ⟨o1', o2, h2⟩ := o
 simp only at y1 y2
 subst y1; subst y2
 rw [show ((0 : Nat) : Int) = 0 from rfl] at e
 refine W.bs e (W.ifT rfl (W.bS rfl (W.ret ⟨a', rfl, y3.mono fun b hb => y4 b hb, KB.trans k1 y5 (fun _ _ h => h) (fun i hi hs => by omega)⟩)))
theorem l9Copy_run {base f : Nat} {h : AH} {p : Nat → Prop} {A : Ac} {cs : List Value} (hB : AcB f A) (x : AcR h p f A cs) (hb : base ≤ h.length) (hp : ∀ b, p b → b < h.length) :
  ∃ cs' h', run (Et base) 99 [.agg cs.toArray] h = some (.agg cs'.toArray, h') ∧ AcG base f (iS h.length h'.length) h' A cs' ∧ KB NoB h h' := by
 obtain ⟨a, b, g, rfl, hr, hx, hl, hlb⟩ := x
 obtain ⟨m1, m2, m3, m4, m5⟩ := hB
 suffices w : Wp (run (Et base) 99 [.agg (acV A.pid A.pc a A.regs.length b A.box.length g A.links.length).toArray] h) fun r => ∃ cs', r.1 = .agg cs'.toArray ∧ AcG base f (iS h.length r.2.length) r.2 A cs' ∧ KB NoB h r.2 by
  obtain ⟨⟨u, h'⟩, e, cs', rfl, q⟩ := w
  exact ⟨cs', h', e, q⟩
 refine W.of (fun r hx => Am.r99 hx) ?_
 refine W.box hb fun h1 o1 k1 q1 => W.box (base := base) (by omega) fun h2 o2 k2 q2 => W.bI ((o1.keepN k2).at0 (i := 0) rfl) (W.bI ((o1.keepN k2).at0 (i := 1) rfl) (W.bS ((o1.keepN k2).at0 (i := 2) rfl) ?_))
 have o1 := o1.keepN k2
 have k02 := kN k1 k2
 obtain ⟨a3, h3, e3, r3, k3⟩ := l9CopyTerms_run (base := base) m1 m4 (hr.keep k02 fun _ _ h => h) (by omega) (fun b hb => by have := hp b hb; omega)
 have n3 := k3.1
 have k03 := kN k02 k3
 have sm : ∀ {x y : AH} {i n : Nat} (k : KB NoB x y) (hx : h.length < x.length), sameA x y (some ⟨h.length, i, none⟩) n := fun k hx => same_KB k hx (fun h => h)
 refine W.bs e3 (W.bS rfl (W.gt (sm k3 (by omega)) (W.gt (sm k3 (by omega)) (W.gt (sm k3 (by omega)) (W.bS ((o1.keepN k3).at0 (i := 3) rfl) ?_)))))
 obtain ⟨a4, h4, e4, r4, k4⟩ := l9CopyTerms_run (base := base) m2 m5 (hx.keep k03 fun _ _ h => h) (by omega) (fun b hb => by have := hp b hb; omega)
 have n4 := k4.1
 have k04 := kN k03 k4
 have nn : ∀ {i : Nat}, neA (some ⟨h.length, i, none⟩) h4.length := ne_A (by omega)
 refine W.bs e4 (W.bS rfl (W.gt (sm k4 (show h.length < h3.length by omega)) (W.gt (sm k4 (show h.length < h3.length by omega)) (W.gt nn (W.gt nn (W.gt nn (W.gt nn (W.box (base := base) (h := h4) (by omega) fun h5 oE k5 q5' => ?_))))))))
 have k05 := kN k04 k5
 have o5 := ((o1.keepN k3).keepN k4).keepN k5
 refine W.gt nn (W.gt (sm (kN k4 k5) (show h.length < h3.length by omega)) (W.gt (sm (kN (kN k3 k4) k5) (show h.length < h2.length by omega)) (W.bS (o5.at0 (i := 4) rfl) ?_)))
 have hraw : rawAt h5 g (A.links.length * 1) = some (iv .i64 A.links) := by
  have := (hl.keepN k05).raw (iv_leaf _ _)
  simpa using this
 obtain ⟨a6, h6, e6, r6, k6, d6⟩ := Own.app (x := oE) (bytes := 8) (n := 0) (m := A.links.length) (sz := 1) (by simp) (by simp) hraw (by omega) (by omega) (by omega) (by simp)
 simp only [Nat.zero_add, List.nil_append] at e6 r6
 have n6 := k6.1
 have b6 : ∀ b, blk a6 b → h4.length ≤ b := fun b hb => by
  rcases d6 with ⟨_, e, _⟩ | d6
  ·rw [e, blk_at0] at hb; omega
  ·have := d6 b hb; omega
 have k6' : KB (· = h4.length) h5 h6 := k6.mono fun i _ hi => blk_at0.1 hi
 have o6 := o5.keepB k6' fun i hi => by rw [blk_at0] at hi; omega
 have z6 := (((o2.keepN k3).keepN k4).keepN k5).keepB k6' fun i hi => by rw [blk_at0] at hi; omega
 have hne : ¬ (h.length = h4.length) := by omega
 refine W.bs e6 (W.bS rfl (W.gt (same_KB k6' (show h.length < h5.length by omega) hne) (W.gt (same_KB k6' (show h.length < h5.length by omega) hne) (W.wr0 z6 (by simp) (by simp) fun h7 o7 k7 l7 => ?_))))
 have hz : setAt (acV 0 0 none 0 none 0 none 0) 0 (acV A.pid A.pc a3 A.regs.length a4 A.box.length a6 A.links.length) = acV A.pid A.pc a3 A.regs.length a4 A.box.length a6 A.links.length := rfl
 rw [hz] at o7
 have l7 : h7.length = h6.length := l7
 have k7 : KB (· = h1.length) h6 h7 := k7
 have k57 : KB (fun b => b = h4.length ∨ b = h1.length) h5 h7 := KB.trans k6' k7 (fun _ _ h => .inl h) (fun _ _ h => .inr h)
 refine W.q5 o7 (W.ret ⟨_, rfl, ?_, ?_⟩)
 ·refine ⟨a3, a4, a6, iS h2.length h3.length, iS h3.length h4.length, iS h4.length h6.length, rfl, ((r3.keep (TmG.kp _ _) k4 fun _ _ h => h).keep (TmG.kp _ _) k5 fun _ _ h => h).keep (TmG.kp _ _) k57 fun b hb hk => by omega,
   (r4.keep (TmG.kp _ _) k5 fun _ _ h => h).keep (TmG.kp _ _) k57 fun b hb hk => by omega, r6.keepB k7 fun b hb => by have := b6 b hb; omega, fun b hb => ⟨b6 b hb, (r6.lt hb).2⟩, fun b hb => ⟨by omega, by show b < h7.length; omega⟩, fun b hb => ⟨by omega, by show b < h7.length; omega⟩, fun b hb => ⟨by omega, by show b < h7.length; omega⟩, fun b h1 h2 => by omega, fun b h1 h2 => by omega, fun b h1 h2 => by omega⟩
 ·exact kFresh k05 k57 fun i hi => by omega
end Go.Proofs.YtjmkbglnjklbcaaGreat.Am
set_option linter.unusedSimpArgs false
set_option linter.unusedVariables false
namespace Go.Proofs.YtjmkbglnjklbcaaGreat.Am
open Go Go.RowKit
def StepQ (base F : Nat) (h : AH) (r : Ac × Acd) (o : Value × AH) : Prop :=
 ∃ cs k n s a m S T, o.1 = .tuple #[.agg cs.toArray, .agg (actV r.2.kind r.2.pid r.2.pc k n s a m).toArray] ∧ AcG base F S o.2 r.1 cs ∧ TmG base F T o.2 r.2.t (termV k n s a m) ∧ (∀ b, S b → ¬ T b) ∧ (∀ b, S b → h.length ≤ b ∧ b < o.2.length) ∧ (∀ b, T b → h.length ≤ b ∧ b < o.2.length) ∧ KB NoB h o.2
end Go.Proofs.YtjmkbglnjklbcaaGreat.Am
set_option linter.unusedSimpArgs false
set_option linter.unusedVariables false
namespace Go.Proofs.YtjmkbglnjklbcaaGreat.Am
open Go Go.RowKit
end Go.Proofs.YtjmkbglnjklbcaaGreat.Am
set_option linter.unusedSimpArgs false
set_option linter.unusedVariables false
namespace Go.Proofs.YtjmkbglnjklbcaaGreat.Am
open Go Go.RowKit
def MkQ (base F : Nat) (h : AH) (o : Option Tm) (r : Value × AH) : Prop :=
 ∃ k n s a m b, r.1 = .tuple #[.agg (termV k n s a m).toArray, .bool b] ∧ KB NoB h r.2 ∧ match o with
  | none => b = false
  | some t => b = true ∧ TmG base F (iS h.length r.2.length) r.2 t (termV k n s a m)
theorem MkQ.ok {base F : Nat} {h h' : AH} {k n : Int} {s : ByteArray} {a : Option Addr} {l : List Tm} {m : Nat} (kb : KB NoB h h') (x : TmG base F (iS h.length h'.length) h' (.mk k n s l) (termV k n s a m)) : MkQ base F h (some (.mk k n s l)) (.tuple #[.agg (termV k n s a m).toArray, .bool true], h') :=
 ⟨k, n, s, a, m, true, rfl, kb, rfl, x⟩
theorem W.o4 {β : Type} {Q : β → Prop} {base t g : Nat} {S : Fp} {h : AH} {l : List Tm} {a : Option Addr} (hs : RowO base t 4 (TmG base (g + 1)) S h l a) {i : Nat} (hi : i < l.length) {f : Int → Int → ByteArray → Option Addr × Nat → Option β} (w : ∀ k n s a2 l2, l[i] = .mk k n s l2 → TmG base (g + 1) S h (.mk k n s l2) (termV k n s a2 l2.length) → RowO base 42 4 (TmG base g) S h l2 a2 → s.size ≤ maxLen → l2.length ≤ maxLen → Wp (f k n s (a2, l2.length)) Q) :
  Wp (a.bind fun ad => ((Am.cell h ad.block (ad.off + i * 4)).bind (getI .i64)).bind fun n1 => ((Am.cell h ad.block (ad.off + i * 4 + 1)).bind (getI .i64)).bind fun n2 => ((Am.cell h ad.block (ad.off + i * 4 + 1 + 1)).bind getStr).bind fun s3 => ((Am.cell h ad.block (ad.off + i * 4 + 1 + 1 + 1)).bind getS).bind fun l4 => f n1 n2 s3 l4) Q := by
 obtain ⟨ad, k, n, s, a2, m, C, rfl, _, g0, g1, g2, g3, hm, hC⟩ := hs.getG hi
 obtain ⟨l2, e, rfl, h1, h2, r⟩ := hm.parts
 refine W.bs rfl (W.bI g0 (W.bI g1 (W.bT g2 (W.bS g3 (w k n s a2 l2 e ?_ (r.mono hC) h1 h2)))))
 rw [← e]
 exact TmG.mo _ _ _ _ _ _ _ hC hm
theorem TmG.eq {base f : Nat} {S : Fp} {h : AH} {k n k' n' : Int} {s s' : ByteArray} {l : List Tm} {a : Option Addr} {m : Nat} (x : TmG base f S h (.mk k n s l) (termV k' n' s' a m)) : k = k' ∧ n = n' ∧ s = s' ∧ m = l.length := by
 cases f with
 | zero => exact x.elim
 | succ f =>
  obtain ⟨l2, e, hm, _⟩ := TmG.parts x
  injection e with t1 t2 t3 t4
  exact ⟨t1, t2, t3, by rw [hm, t4]⟩
end Go.Proofs.YtjmkbglnjklbcaaGreat.Am
set_option linter.unusedSimpArgs false
set_option linter.unusedVariables false
namespace Go.Proofs.YtjmkbglnjklbcaaGreat.Am
open Go Go.RowKit
end Go.Proofs.YtjmkbglnjklbcaaGreat.Am
set_option linter.unusedSimpArgs false
set_option linter.unusedVariables false
namespace Go.Proofs.YtjmkbglnjklbcaaGreat.Am
open Go Go.RowKit
theorem W.il {β γ : Type} {Q : β → Prop} {k : γ → Option β} {q : γ} (w : Wp (k q) Q) : Wp (some (Sum.inl q : Sum γ β)) (Sum.elim (fun q => Wp (k q) Q) Q) := W.inl w
theorem AcG.form2 {base f : Nat} {S : Fp} {h : AH} {A : Ac} {cs : List Value} (x : AcG base f S h A cs) : ∃ a b g, cs = acV A.pid A.pc a A.regs.length b A.box.length g A.links.length := by
 obtain ⟨a, b, g, S1, S2, S3, e, _⟩ := x
 exact ⟨a, b, g, e⟩
theorem StepQ.of {base F : Nat} {h0 h : AH} {D : Ds} {R : List Rs} {A : Ac} {cs : List Value} {S1 T : Fp} {AA : AH → Prop} {kd pid pc k n : Int} {s : ByteArray} {a : Option Addr} {m : Nat} {t : Tm} (d : Hs base NoB h0 h D R) {i : Nat} (e : R[i]? = some ⟨S1, true, AA⟩) (hA : AcG base F S1 h A cs) (ht : TmG base F T h t (termV k n s a m)) (hd : ∀ b, S1 b → ¬ T b) (hT : ∀ b, T b → h0.length ≤ b ∧ b < h.length) : StepQ base F h0 (A, ⟨kd, pid, pc, t⟩) (.tuple #[.agg cs.toArray, .agg (actV kd pid pc k n s a m).toArray], h) :=
 ⟨cs, k, n, s, a, m, S1, T, rfl, hA, ht, hd, fun b hb => ⟨(d.rfr e rfl b hb).resolve_left fun h => h, d.rlt e b hb⟩, hT, d.kb⟩
end Go.Proofs.YtjmkbglnjklbcaaGreat.Am
set_option linter.unusedSimpArgs false
set_option linter.unusedVariables false
namespace Go.Proofs.YtjmkbglnjklbcaaGreat.Am
open Go Go.RowKit
theorem im2 {a c : Rs} {l : List Rs} (hc : c.mu = true) (ha : a.mu = false) : ∀ r ∈ [a, c], r.mu = false → ∃ r0 ∈ a :: l, r0.mu = false ∧ r0.S = r.S := by
 intro r hr hm
 simp only [List.mem_cons, List.not_mem_nil, or_false] at hr
 rcases hr with rfl | rfl
 ·exact ⟨_, .head _, ha, rfl⟩
 ·rw [hc] at hm; cases hm
theorem W.s6 {β : Type} {Q : β → Prop} {h : AH} {p : Nat → Prop} {g : Nat} {l : List Sd} {a : Option Addr} (hs : SsR h p g l a) {i : Nat} (hi : i < l.length) {f : Int → Int → Int → Int → ByteArray → Option Addr × Nat → Option β} (w : ∀ k n s a2 m, TmR h p g l[i].t (termV k n s a2 m) → Wp (f l[i].kind l[i].pid k n s (a2, m)) Q) :
  Wp (a.bind fun ad => ((Am.cell h ad.block (ad.off + i * 6)).bind (getI .i64)).bind fun n1 => ((Am.cell h ad.block (ad.off + i * 6 + 1)).bind (getI .i64)).bind fun n2 => ((Am.cell h ad.block (ad.off + i * 6 + 1 + 1)).bind (getI .i64)).bind fun n3 => ((Am.cell h ad.block (ad.off + i * 6 + 1 + 1 + 1)).bind (getI .i64)).bind fun n4 => ((Am.cell h ad.block (ad.off + i * 6 + 1 + 1 + 1 + 1)).bind getStr).bind fun s5 => ((Am.cell h ad.block (ad.off + i * 6 + 1 + 1 + 1 + 1 + 1)).bind getS).bind fun l6 => f n1 n2 n3 n4 s5 l6) Q := by
 obtain ⟨ad, k, n, s, a2, m, rfl, _, g0, g1, g2, g3, g4, g5, hm⟩ := hs.get hi
 exact W.bs rfl (W.bI g0 (W.bI g1 (W.bI g2 (W.bI g3 (W.bT g4 (W.bS g5 (w k n s a2 m hm)))))))
theorem W.ra {β : Type} {Q : β → Prop} {h : AH} {p : Nat → Prop} {g : Nat} {l : List Ac} {a : Option Addr} (hs : AsR h p g l a) {i : Nat} (hi : i < l.length) {f : Int → Int → Option Addr × Nat → Option Addr × Nat → Option Addr × Nat → Option β} (w : ∀ a b c, AcR h p g l[i] (acV l[i].pid l[i].pc a l[i].regs.length b l[i].box.length c l[i].links.length) → Wp (f l[i].pid l[i].pc (a, l[i].regs.length) (b, l[i].box.length) (c, l[i].links.length)) Q) :
  Wp (a.bind fun ad => ((Am.cell h ad.block (ad.off + i * 5)).bind (getI .i64)).bind fun n1 => ((Am.cell h ad.block (ad.off + i * 5 + 1)).bind (getI .i64)).bind fun n2 => ((Am.cell h ad.block (ad.off + i * 5 + 1 + 1)).bind getS).bind fun l3 => ((Am.cell h ad.block (ad.off + i * 5 + 1 + 1 + 1)).bind getS).bind fun l4 => ((Am.cell h ad.block (ad.off + i * 5 + 1 + 1 + 1 + 1)).bind getS).bind fun l5 => f n1 n2 l3 l4 l5) Q := by
 obtain ⟨ad, a, b, c, rfl, _, g0, g1, g2, g3, g4, hm, _⟩ := hs.get hi
 exact W.bs rfl (W.bI g0 (W.bI g1 (W.bS g2 (W.bS g3 (W.bS g4 (w a b c hm))))))
abbrev rIn (p : Fp) (A : AH → Prop) : Rs := ⟨p, false, A⟩
abbrev rSs (base f : Nat) (S : Fp) (l : List Sd) (a : Option Addr) : Rs := ⟨S, true, fun y => RowO base 137 6 (SdD f) S y l a⟩
abbrev rAs (base f : Nat) (S : Fp) (l : List Ac) (a : Option Addr) : Rs := ⟨S, true, fun y => RowO base 118 5 (AcG base f) S y l a⟩
theorem copyOut_loop {base f : Nat} {p : Fp} {l : List Sd} {a : Option Addr} (hl : l.length ≤ 1048576) (hB : ∀ x ∈ l, TmB f x.t) {V : Fp} {h0 : AH} : ∀ (n i : Nat) (h : AH) (ao : Option Addr) (S : Fp), i + n = l.length → Hs base V h0 h [] [rIn p fun y => SsR y p f l a, rSs base f S (l.take i) ao] →
  Wp (loopL (B81_0 base) [some (.slice ao i i), some (.slice a l.length l.length), some (.int .i64 (l.length : Int)), some (.int .i64 (i : Int))] h) fun o => ∃ a' S', o.1 = 2 ∧ o.2.1 = [some (.slice a' l.length l.length)] ∧ Hs base V h0 o.2.2 [] [rIn p fun y => SsR y p f l a, rSs base f S' l a'] := by
 intro n
 induction n with
 | zero =>
  intro i h ao S hi d
  have hi' : i = l.length := by omega
  subst hi'
  rw [List.take_of_length_le (Nat.le_refl _)] at d
  refine ⟨_, loop_off (by decide) (s' := [some (.slice ao l.length l.length)]) (h' := h) (e := 2) ?_, ao, S, rfl, rfl, d⟩
  rw [B81_0_eq]
  exact Am.ifF (by simp) rfl
 | succ n ih =>
  intro i h ao S hi d
  have hlt : i < l.length := by omega
  suffices w : Wp (B81_0 base [some (.slice ao i i), some (.slice a l.length l.length), some (.int .i64 (l.length : Int)), some (.int .i64 (i : Int))] h) fun o => ∃ a' S', o.1 = 0 ∧ o.2.1 = [some (.slice a' (i + 1) (i + 1)), some (.slice a l.length l.length), some (.int .i64 (l.length : Int)), some (.int .i64 ((i + 1 : Nat) : Int))] ∧ Hs base V h0 o.2.2 [] [rIn p fun y => SsR y p f l a, rSs base f S' (l.take (i + 1)) a'] by
   obtain ⟨⟨o1, o2, h'⟩, e, a', S', y1, y2, d'⟩ := w
   simp only at y1 y2 d'
   subst y1; subst y2
   obtain ⟨o, eo, q⟩ := ih (i + 1) h' a' S' (by omega) d'
   exact ⟨o, loop_on e eo, q⟩
  rw [B81_0_eq]
  refine W.ifT (decide_eq_true (by omega)) (W.ifT ⟨by omega, by omega⟩ ?_)
  rw [Int.toNat_natCast]
  refine W.s6 (d.rs (i := 0) rfl) hlt fun k n s a2 m hm => ?_
  have d := d.also (i := 0) rfl rfl _ hm (fun U y y' k hs x => TmR.keep k hs _ _ _ x)
  ((try simp only [n1, n2, n3, n4, n5, n6] at d); (with_reducible repeat first | refine W.a1 d ?_ | refine W.a2 ?_ | refine W.a3 ?_ | refine W.bo ?_ | refine W.a5 d fun hw d lw kw => ?_ | refine W.a6 d ?_ | refine W.a7 ?_ | refine W.a8 ?_); (refine W.nD d fun h1 d _ kh1 => ?_); (with_reducible repeat first | refine W.a1 d ?_ | refine W.a2 ?_ | refine W.a3 ?_ | refine W.bo ?_ | refine W.a5 d fun hw d lw kw => ?_ | refine W.a6 d ?_ | refine W.a7 ?_ | refine W.a8 ?_))
  obtain ⟨cs, h2, e2, t2, k2⟩ := copyTermG_run (base := base) f _ p _ _ (d.rs (i := 2) rfl) (hB _ (List.getElem_mem hlt)) d.ge (d.rlt (i := 0) rfl)
  obtain ⟨k', n', s', a', m', rfl⟩ := t2.form
  have sd : SdD f (iS _ h2.length) h2 l[i] (saidV l[i].kind l[i].pid k' n' s' a' m') := ⟨_, _, _, _, _, rfl, t2.d⟩
  have d := d.callP (SdD.kp _) k2 sd
  refine W.bs e2 ?_
  ((try simp only [n1, n2, n3, n4, n5, n6] at d); (with_reducible repeat first | refine W.a1 d ?_ | refine W.a2 ?_ | refine W.a3 ?_ | refine W.bo ?_ | refine W.a5 d fun hw d lw kw => ?_ | refine W.a6 d ?_ | refine W.a7 ?_ | refine W.a8 ?_); (refine W.nD d fun h3 d _ kh3 => ?_); (with_reducible repeat first | refine W.a1 d ?_ | refine W.a2 ?_ | refine W.a3 ?_ | refine W.bo ?_ | refine W.a5 d fun hw d lw kw => ?_ | refine W.a6 d ?_ | refine W.a7 ?_ | refine W.a8 ?_))
  have elen : (l.take i).length = i := by simp; omega
  obtain ⟨a4, h4, S4, e4, d, _, _, _⟩ := d.app1 (i := 1) (j := 3) (bytes := 72) (SdD.kp _) rfl rfl (by decide) (.head _) rfl (by decide) rfl (by rw [elen]; omega) (by rw [elen]; omega)
  rw [elen] at e4
  refine W.bs e4 ?_
  rw [← take_snoc hlt] at d
  ((try simp only [n1, n2, n3, n4, n5, n6] at d); (with_reducible repeat first | refine W.a1 d ?_ | refine W.a2 ?_ | refine W.a3 ?_ | refine W.bo ?_ | refine W.a5 d fun hw d lw kw => ?_ | refine W.a6 d ?_ | refine W.a7 ?_ | refine W.a8 ?_))
  refine W.ret ⟨a4, S4, ?_, ?_, (d.tl.tl).takeR 2⟩
  ·rfl
  ·simp only [w64i (n := (i : Int) + 1) (by omega) (by omega)]
   rfl
theorem copyOut_run {base f : Nat} {p : Fp} {l : List Sd} {a : Option Addr} {h : AH} (hl : l.length ≤ 1048576) (hB : ∀ x ∈ l, TmB f x.t) (hs : SsR h p f l a) (hp : ∀ b, p b → b < h.length) (hb : base ≤ h.length) :
  ∃ a' h', run (Et base) 81 [.slice a l.length l.length] h = some (.slice a' l.length l.length, h') ∧ RowO base 137 6 (SdD f) (iS h.length h'.length) h' l a' ∧ KB NoB h h' := by
 suffices w : Wp (run (Et base) 81 [.slice a l.length l.length] h) fun o => ∃ a', o.1 = .slice a' l.length l.length ∧ RowO base 137 6 (SdD f) (iS h.length o.2.length) o.2 l a' ∧ KB NoB h o.2 by
  obtain ⟨⟨u, h'⟩, e, a', rfl, q⟩ := w
  exact ⟨a', h', e, q⟩
 have d := (Hs.start hb).inp p _ hs (fun U y y' k hs x => SsR.keep k hs x) hp (fun x hx => nomatch hx) rfl
 have d := d.call (KB.refl NoB _) (fun _ => False) (fun y => RowO base 137 6 (SdD f) (fun _ => False) y [] none) RowO.nil (fun U y y' k hs x => x.keep (SdD.kp _) k hs) (fun _ h => h.elim)
 refine W.of (fun r hx => Am.r81 hx) ?_
 refine W.wb (copyOut_loop (base := base) hl hB l.length 0 h none _ (by omega) d) ?_
 rintro ⟨o1, o2, h2⟩ ⟨a', S', y1, y2, d⟩
 simp only at y1 y2 d
 subst y1; subst y2
 refine W.ifT rfl ?_
 ((try simp only [n1, n2, n3, n4, n5, n6] at d); (with_reducible repeat first | refine W.a1 d ?_ | refine W.a2 ?_ | refine W.a3 ?_ | refine W.bo ?_ | refine W.a5 d fun hw d lw kw => ?_ | refine W.a6 d ?_ | refine W.a7 ?_ | refine W.a8 ?_))
 have rr := d.rs (i := 1) rfl
 exact W.ret ⟨a', rfl, RowO.mono rr fun b hb => ⟨(d.rfr (i := 1) rfl rfl b hb).resolve_left fun h => h, d.rlt (i := 1) rfl b hb⟩, d.kb⟩
theorem copyAcs_loop {base f rb ob : Nat} {p : Fp} {l : List Ac} {a : Option Addr} {a0 g : Option Addr} {n0 q : Nat} {v : Int} (hl : l.length ≤ 1048576) (hB : ∀ A ∈ l, AcB f A) {V : Fp} {h0 : AH} : ∀ (n i : Nat) (h : AH) (ao : Option Addr) (S : Fp), i + n = l.length → Hs base V h0 h [(ob, 36, plV a0 n0 ao i v g q)] [rIn p fun y => AsR y p f l a, rAs base f S (l.take i) ao] →
  Wp (loopL (B42_0 base) [some (.pointer (at0 rb)), some (.pointer (at0 ob)), some (.slice a l.length l.length), some (.int .i64 (l.length : Int)), some (.int .i64 (i : Int))] h) fun o => ∃ a' S', o.1 = 2 ∧ o.2.1 = [some (.pointer (at0 rb)), some (.pointer (at0 ob))] ∧ Hs base V h0 o.2.2 [(ob, 36, plV a0 n0 a' l.length v g q)] [rIn p fun y => AsR y p f l a, rAs base f S' l a'] := by
 intro n
 induction n with
 | zero =>
  intro i h ao S hi d
  have hi' : i = l.length := by omega
  subst hi'
  rw [List.take_of_length_le (Nat.le_refl _)] at d
  refine ⟨_, loop_off (by decide) (s' := [some (.pointer (at0 rb)), some (.pointer (at0 ob))]) (h' := h) (e := 2) ?_, ao, S, rfl, rfl, d⟩
  rw [B42_0_eq]
  exact Am.ifF (by simp) rfl
 | succ n ih =>
  intro i h ao S hi d
  have hlt : i < l.length := by omega
  suffices w : Wp (B42_0 base [some (.pointer (at0 rb)), some (.pointer (at0 ob)), some (.slice a l.length l.length), some (.int .i64 (l.length : Int)), some (.int .i64 (i : Int))] h) fun o => ∃ a' S', o.1 = 0 ∧ o.2.1 = [some (.pointer (at0 rb)), some (.pointer (at0 ob)), some (.slice a l.length l.length), some (.int .i64 (l.length : Int)), some (.int .i64 ((i + 1 : Nat) : Int))] ∧ Hs base V h0 o.2.2 [(ob, 36, plV a0 n0 a' (i + 1) v g q)] [rIn p fun y => AsR y p f l a, rAs base f S' (l.take (i + 1)) a'] by
   obtain ⟨⟨o1, o2, h'⟩, e, a', S', y1, y2, d'⟩ := w
   simp only at y1 y2 d'
   subst y1; subst y2
   obtain ⟨o, eo, q⟩ := ih (i + 1) h' a' S' (by omega) d'
   exact ⟨o, loop_on e eo, q⟩
  rw [B42_0_eq]
  refine W.ifT (decide_eq_true (by omega)) (W.ifT ⟨by omega, by omega⟩ ?_)
  rw [Int.toNat_natCast]
  refine W.ra (d.rs (i := 0) rfl) hlt fun a1 b1 c1 hm => ?_
  have d := d.also (i := 0) rfl rfl _ hm (fun U y y' k hs x => AcR.keep k hs x)
  ((try simp only [n1, n2, n3, n4, n5, n6] at d); (with_reducible repeat first | refine W.a1 d ?_ | refine W.a2 ?_ | refine W.a3 ?_ | refine W.bo ?_ | refine W.a5 d fun hw d lw kw => ?_ | refine W.a6 d ?_ | refine W.a7 ?_ | refine W.a8 ?_); (refine W.nD d fun h1 d _ kh1 => ?_); (with_reducible repeat first | refine W.a1 d ?_ | refine W.a2 ?_ | refine W.a3 ?_ | refine W.bo ?_ | refine W.a5 d fun hw d lw kw => ?_ | refine W.a6 d ?_ | refine W.a7 ?_ | refine W.a8 ?_))
  obtain ⟨cs, h2, e2, t2, k2⟩ := copyActor_run (base := base) (hB _ (List.getElem_mem hlt)) (d.rs (i := 2) rfl) d.ge (d.rlt (i := 0) rfl)
  obtain ⟨a2, b2, c2, rfl⟩ := t2.form2
  have d := d.callP (AcG.kp _ _) k2 t2
  refine W.bs e2 ?_
  ((try simp only [n1, n2, n3, n4, n5, n6] at d); (with_reducible repeat first | refine W.a1 d ?_ | refine W.a2 ?_ | refine W.a3 ?_ | refine W.bo ?_ | refine W.a5 d fun hw d lw kw => ?_ | refine W.a6 d ?_ | refine W.a7 ?_ | refine W.a8 ?_); (refine W.nD d fun h3 d _ kh3 => ?_); (with_reducible repeat first | refine W.a1 d ?_ | refine W.a2 ?_ | refine W.a3 ?_ | refine W.bo ?_ | refine W.a5 d fun hw d lw kw => ?_ | refine W.a6 d ?_ | refine W.a7 ?_ | refine W.a8 ?_))
  have elen : (l.take i).length = i := by simp; omega
  obtain ⟨a4, h4, S4, e4, d, _, _, _⟩ := d.app1 (i := 1) (j := 3) (bytes := 88) (AcG.kp _ _) rfl rfl (by decide) (.head _) rfl (by decide) rfl (by rw [elen]; omega) (by rw [elen]; omega)
  rw [elen] at e4
  refine W.bs e4 ?_
  rw [← take_snoc hlt] at d
  ((try simp only [n1, n2, n3, n4, n5, n6] at d); (with_reducible repeat first | refine W.a1 d ?_ | refine W.a2 ?_ | refine W.a3 ?_ | refine W.bo ?_ | refine W.a5 d fun hw d lw kw => ?_ | refine W.a6 d ?_ | refine W.a7 ?_ | refine W.a8 ?_))
  refine W.ret ⟨a4, S4, rfl, ?_, (d.tl.tl).takeR 2⟩
  simp only [w64i (n := (i : Int) + 1) (by omega) (by omega)]
  rfl
theorem PlG.of {base f : Nat} {h0 h : AH} {D : Ds} {R : List Rs} {P : Pl} {a b g : Option Addr} {S1 S2 S3 : Fp} (d : Hs base NoB h0 h D R) {i j k : Nat} (hij : i ≠ j) (hik : i ≠ k) (hjk : j ≠ k) (e1 : R[i]? = some ⟨S1, true, fun y => Own base 145 y a (insR P.code)⟩) (hS1 : ∀ x, blk a x → S1 x) (e2 : R[j]? = some (rAs base f S2 P.acs b)) (e3 : R[k]? = some (rSs base f S3 P.out g)) : PlG base f (iS h0.length h.length) h P (plV a P.code.length b P.acs.length P.next g P.out.length) := by
 have dj : ∀ {i j : Nat} {r s : Rs}, i ≠ j → R[i]? = some r → R[j]? = some s → r.mu = true → ∀ b, r.S b → ¬ s.S b := by
  intro i j r s hij hr hs m
  obtain ⟨hi, rfl⟩ := List.getElem?_eq_some_iff.1 hr
  obtain ⟨hj, rfl⟩ := List.getElem?_eq_some_iff.1 hs
  rcases Nat.lt_or_gt_of_ne hij with hlt | hgt
  ·exact List.pairwise_iff_getElem.1 d.dj i j hi hj hlt (by rw [m]; rfl)
  ·exact (List.pairwise_iff_getElem.1 d.dj j i hj hi hgt).symm (by rw [m]; rfl)
 exact ⟨a, b, g, S1, S2, S3, rfl, d.rs e1, hS1, d.rs e2, d.rs e3, fun x hx => ⟨(d.rfr e1 rfl x hx).resolve_left fun h => h, d.rlt e1 x hx⟩, fun x hx => ⟨(d.rfr e2 rfl x hx).resolve_left fun h => h, d.rlt e2 x hx⟩, fun x hx => ⟨(d.rfr e3 rfl x hx).resolve_left fun h => h, d.rlt e3 x hx⟩, dj hij e1 e2 rfl, dj hik e1 e3 rfl, dj hjk e2 e3 rfl⟩
theorem Hs.insCopy {base : Nat} {V : Fp} {h0 h : AH} {D : Ds} {R : List Rs} (d : Hs base V h0 h D R) {l : List In} {a : Option Addr} (hs : Sl h a (insR l)) (hl : l.length ≤ 1048576) :
  ∃ a' h' S', Am.app base h 145 6 56 none 0 (rawAt h a (l.length * 6)) l.length = some (.slice a' l.length l.length, h') ∧ Hs base V h0 h' D (R ++ [⟨S', true, fun y => Own base 145 y a' (insR l)⟩]) ∧ (∀ x, blk a' x → S' x) ∧ KB NoB h h' := by
 have hr : rawAt h a (l.length * 6) = some (insR l) := by
  have := hs.raw (insR_leaf _)
  rw [insR_len] at this
  exact this
 obtain ⟨a1, h1, g1, g2, g3, g4⟩ := Own.app (x := (.inl ⟨rfl, rfl⟩ : Own base 145 h none [])) (bytes := 56) (n := 0) (m := l.length) (sz := 6) (by simp) (by decide) hr d.ge (by omega) (by omega) (insR_len _)
 simp only [Nat.zero_add, List.nil_append] at g1 g2
 have k : KB NoB h h1 := g3.mono fun i hi ⟨ad, e, _⟩ => by cases e
 refine ⟨a1, h1, blk a1, g1, d.call k (blk a1) _ g2 (fun U y y' ky hs x => x.keep ky hs) (fun b hb => ⟨?_, (g2.lt hb).2⟩), fun _ h => h, k⟩
 rcases g4 with ⟨_, e, _⟩ | g4
 ·rw [e] at hb; obtain ⟨_, e, _⟩ := hb; cases e
 ·have := g4 b hb; omega
theorem copyPlain_run {base f : Nat} {p : Fp} {P : Pl} {cs : List Value} {h : AH} (hB : PlB f P) (x : PlR h p f P cs) (hp : ∀ b, p b → b < h.length) (hb : base ≤ h.length) :
  ∃ cs' h', run (Et base) 42 [.agg cs.toArray] h = some (.agg cs'.toArray, h') ∧ PlG base f (iS h.length h'.length) h' P cs' ∧ KB NoB h h' := by
 obtain ⟨a, b, g, rfl, hc, hcb, ha, ho⟩ := x
 obtain ⟨b1, b2, b3, b4, b5, b6⟩ := hB
 suffices w : Wp (run (Et base) 42 [.agg (plV a P.code.length b P.acs.length P.next g P.out.length).toArray] h) fun o => ∃ cs', o.1 = .agg cs'.toArray ∧ PlG base f (iS h.length o.2.length) o.2 P cs' ∧ KB NoB h o.2 by
  obtain ⟨⟨u, h'⟩, e, cs', rfl, q⟩ := w
  exact ⟨cs', h', e, q⟩
 have d := ((Hs.start hb).inp p _ ha (fun U y y' k hs x => AsR.keep k hs x) hp (fun x hx => nomatch hx) rfl).inp p _ ho (fun U y y' k hs x => SsR.keep k hs x) hp (fun x hx => nomatch hx) rfl
 refine W.of (fun r hx => Am.r42 hx) ?_
 ((try simp only [n1, n2, n3, n4, n5, n6] at d); (with_reducible repeat first | refine W.a1 d ?_ | refine W.a2 ?_ | refine W.a3 ?_ | refine W.bo ?_ | refine W.a5 d fun hw d lw kw => ?_ | refine W.a6 d ?_ | refine W.a7 ?_ | refine W.a8 ?_); (refine W.nD d fun h1 d _ kh1 => ?_); (with_reducible repeat first | refine W.a1 d ?_ | refine W.a2 ?_ | refine W.a3 ?_ | refine W.bo ?_ | refine W.a5 d fun hw d lw kw => ?_ | refine W.a6 d ?_ | refine W.a7 ?_ | refine W.a8 ?_); (refine W.nD d fun h2 d _ kh2 => ?_); (with_reducible repeat first | refine W.a1 d ?_ | refine W.a2 ?_ | refine W.a3 ?_ | refine W.bo ?_ | refine W.a5 d fun hw d lw kw => ?_ | refine W.a6 d ?_ | refine W.a7 ?_ | refine W.a8 ?_))
 obtain ⟨a3, h3, S3, e3, d, hS3, k3⟩ := d.insCopy (hc.keep d.kb fun _ _ h => h) b1
 refine W.bs e3 ?_
 ((try simp only [n1, n2, n3, n4, n5, n6] at d); (with_reducible repeat first | refine W.a1 d ?_ | refine W.a2 ?_ | refine W.a3 ?_ | refine W.bo ?_ | refine W.a5 d fun hw d lw kw => ?_ | refine W.a6 d ?_ | refine W.a7 ?_ | refine W.a8 ?_))
 obtain ⟨a4, h4, e4, r4, k4⟩ := copyOut_run (base := base) b5 b6 (d.rs (i := 1) rfl) (d.rlt (i := 1) rfl) d.ge
 have d := d.callO (SdD.kp _) k4 r4
 refine W.bs e4 ?_
 ((try simp only [n1, n2, n3, n4, n5, n6] at d); (with_reducible repeat first | refine W.a1 d ?_ | refine W.a2 ?_ | refine W.a3 ?_ | refine W.bo ?_ | refine W.a5 d fun hw d lw kw => ?_ | refine W.a6 d ?_ | refine W.a7 ?_ | refine W.a8 ?_); (refine W.nD d fun h5 d _ kh5 => ?_); (with_reducible repeat first | refine W.a1 d ?_ | refine W.a2 ?_ | refine W.a3 ?_ | refine W.bo ?_ | refine W.a5 d fun hw d lw kw => ?_ | refine W.a6 d ?_ | refine W.a7 ?_ | refine W.a8 ?_))
 have d := d.call (KB.refl NoB _) (fun _ => False) (fun y => RowO base 118 5 (AcG base f) (fun _ => False) y [] none) RowO.nil (fun U y y' k hs x => x.keep (AcG.kp _ _) k hs) (fun _ h => h.elim)
 have d := (d.frontR (Del.at (i := 4) rfl)).frontR (Del.at (i := 1) rfl)
 simp only [n1, n2, n5, n6] at d
 have d1 := Hs.part (D1 := [_]) (R1 := [_, _]) d
 refine W.wb (copyAcs_loop (base := base) b3 b4 P.acs.length 0 _ none _ (by omega) d1) ?_
 rintro ⟨o1, o2, h6⟩ ⟨a6, S6, y1, y2, d6⟩
 simp only at y1 y2 d6
 subst y1; subst y2
 have d := Hs.back (D1 := [_]) (R1 := [_, _]) d d6 (im2 rfl rfl)
 refine W.ifT rfl ?_
 ((try simp only [n1, n2, n3, n4, n5, n6] at d); (with_reducible repeat first | refine W.a1 d ?_ | refine W.a2 ?_ | refine W.a3 ?_ | refine W.bo ?_ | refine W.a5 d fun hw d lw kw => ?_ | refine W.a6 d ?_ | refine W.a7 ?_ | refine W.a8 ?_))
 exact W.ret ⟨_, rfl, PlG.of d (i := 3) (j := 1) (k := 4) (by decide) (by decide) (by decide) rfl hS3 rfl rfl, d.kb⟩
end Go.Proofs.YtjmkbglnjklbcaaGreat.Am
set_option linter.unusedSimpArgs false
set_option linter.unusedVariables false
namespace Go.Proofs.YtjmkbglnjklbcaaGreat.Am
open Go Go.RowKit
theorem Hs.appD {base t sz bytes nb n m : Nat} {V : Fp} {h0 h : AH} {D : Ds} {R : List Rs} {olds new : List Value} {src : Option (List Value)} (d : Hs base V h0 h ((nb, t, olds) :: D) R) (hn : olds.length = n * sz) (hsz : 0 < sz) (hs : src = some new) (h1 : (n + m) * bytes ≤ 140737488355328) (h2 : n + m ≤ 9223372036854775807) (hm : new.length = m * sz) :
  ∃ a' h' S', Am.app base h t sz bytes (at0 nb) n src m = some (.slice a' (n + m) (n + m), h') ∧ Hs base V h0 h' D (R ++ [⟨S', true, fun y => Own base t y a' (olds ++ new)⟩]) ∧ (∀ x, blk a' x → S' x) ∧ KB (· = nb) h h' ∧ (∀ x, S' x → x = nb ∨ h.length ≤ x) := by
 have d' := d.unbox .here
 obtain ⟨a', h', e, o, k, q⟩ := Own.app (x := d.ol (.head _)) (bytes := bytes) (m := m) hn hsz hs d.ge h1 h2 hm
 have k : KB (· = nb) h h' := k.mono fun i _ hi => blk_at0.1 hi
 have n0 := d.kb.1
 have d2 := d'.upd (r := ⟨(· = nb), true, fun y => Own base t y (at0 nb) olds⟩) (r' := ⟨blk a', true, fun y => Own base t y a' (olds ++ new)⟩) (R' := R ++ [⟨blk a', true, fun y => Own base t y a' (olds ++ new)⟩]) (by
  clear d d' k q
  induction R with
  | nil => exact .here
  | cons x R ih => exact .there ih) rfl rfl k (fun b hb => .inl hb) o (fun U y y' ky hs x => x.keep ky hs) (fun b hb => by
   rcases q with ⟨_, e, _⟩ | q
   ·have hb : blk a' b := hb
    rw [e, blk_at0] at hb
    exact .inl hb
   ·have e := q b hb
    have := (o.lt hb).2
    exact .inr ⟨by omega, this⟩)
 refine ⟨a', h', _, e, d2, fun _ h => h, k, fun b hb => ?_⟩
 have hb : blk a' b := hb
 rcases q with ⟨_, e, _⟩ | q
 ·rw [e, blk_at0] at hb; exact .inl hb
 ·have := q b hb; exact .inr (by omega)
theorem l11CopyA_loop {base f rb ob pb : Nat} {p : Fp} {l : List Ac} {a : Option Addr} {a0 g a1 g1 : Option Addr} {n0 q n1' q1 : Nat} {v v1 : Int} (hl : l.length ≤ 1048576) (hB : ∀ A ∈ l, AcB f A) {V : Fp} {h0 : AH} : ∀ (n i : Nat) (h : AH) (ao : Option Addr) (S : Fp), i + n = l.length → Hs base V h0 h [(ob, 36, plV a0 n0 ao i v g q), (pb, 36, plV a1 n1' a l.length v1 g1 q1)] [rIn p fun y => AsR y p f l a, rAs base f S (l.take i) ao] →
  Wp (loopL (B33_0 base) [some (.pointer (at0 pb)), some (.pointer (at0 rb)), some (.pointer (at0 ob)), some (.int .i64 (i : Int))] h) fun o => ∃ a' S', o.1 = 2 ∧ o.2.1 = [some (.pointer (at0 pb)), some (.pointer (at0 rb)), some (.pointer (at0 ob))] ∧ Hs base V h0 o.2.2 [(ob, 36, plV a0 n0 a' l.length v g q), (pb, 36, plV a1 n1' a l.length v1 g1 q1)] [rIn p fun y => AsR y p f l a, rAs base f S' l a'] := by
 intro n
 induction n with
 | zero =>
  intro i h ao S hi d
  have hi' : i = l.length := by omega
  subst hi'
  rw [List.take_of_length_le (Nat.le_refl _)] at d
  suffices w : Wp (B33_0 base [some (.pointer (at0 pb)), some (.pointer (at0 rb)), some (.pointer (at0 ob)), some (.int .i64 (l.length : Int))] h) fun o => o = (2, [some (.pointer (at0 pb)), some (.pointer (at0 rb)), some (.pointer (at0 ob))], h) by
   obtain ⟨o, e, rfl⟩ := w
   exact ⟨_, loop_off (by decide) e, ao, S, rfl, rfl, d⟩
  rw [B33_0_eq]
  ((try simp only [n1, n2, n3, n4, n5, n6] at d); (with_reducible repeat first | refine W.a1 d ?_ | refine W.a2 ?_ | refine W.a3 ?_ | refine W.bo ?_ | refine W.a5 d fun hw d lw kw => ?_ | refine W.a6 d ?_ | refine W.a7 ?_ | refine W.a8 ?_))
  exact W.ifF (by simp) (W.ret rfl)
 | succ n ih =>
  intro i h ao S hi d
  have hlt : i < l.length := by omega
  suffices w : Wp (B33_0 base [some (.pointer (at0 pb)), some (.pointer (at0 rb)), some (.pointer (at0 ob)), some (.int .i64 (i : Int))] h) fun o => ∃ a' S', o.1 = 0 ∧ o.2.1 = [some (.pointer (at0 pb)), some (.pointer (at0 rb)), some (.pointer (at0 ob)), some (.int .i64 ((i + 1 : Nat) : Int))] ∧ Hs base V h0 o.2.2 [(ob, 36, plV a0 n0 a' (i + 1) v g q), (pb, 36, plV a1 n1' a l.length v1 g1 q1)] [rIn p fun y => AsR y p f l a, rAs base f S' (l.take (i + 1)) a'] by
   obtain ⟨⟨o1, o2, h'⟩, e, a', S', y1, y2, d'⟩ := w
   simp only at y1 y2 d'
   subst y1; subst y2
   obtain ⟨o, eo, q⟩ := ih (i + 1) h' a' S' (by omega) d'
   exact ⟨o, loop_on e eo, q⟩
  rw [B33_0_eq]
  ((try simp only [n1, n2, n3, n4, n5, n6] at d); (with_reducible repeat first | refine W.a1 d ?_ | refine W.a2 ?_ | refine W.a3 ?_ | refine W.bo ?_ | refine W.a5 d fun hw d lw kw => ?_ | refine W.a6 d ?_ | refine W.a7 ?_ | refine W.a8 ?_))
  refine W.ifT (decide_eq_true (by show (i : Int) < (l.length : Int); omega)) ?_
  ((try simp only [n1, n2, n3, n4, n5, n6] at d); (with_reducible repeat first | refine W.a1 d ?_ | refine W.a2 ?_ | refine W.a3 ?_ | refine W.bo ?_ | refine W.a5 d fun hw d lw kw => ?_ | refine W.a6 d ?_ | refine W.a7 ?_ | refine W.a8 ?_))
  rw [Int.toNat_natCast]
  refine W.ra (d.rs (i := 0) rfl) hlt fun a1 b1 c1 hm => ?_
  have d := d.also (i := 0) rfl rfl _ hm (fun U y y' k hs x => AcR.keep k hs x)
  ((try simp only [n1, n2, n3, n4, n5, n6] at d); (with_reducible repeat first | refine W.a1 d ?_ | refine W.a2 ?_ | refine W.a3 ?_ | refine W.bo ?_ | refine W.a5 d fun hw d lw kw => ?_ | refine W.a6 d ?_ | refine W.a7 ?_ | refine W.a8 ?_))
  obtain ⟨cs, h2, e2, t2, k2⟩ := l9Copy_run (base := base) (hB _ (List.getElem_mem hlt)) (d.rs (i := 2) rfl) d.ge (d.rlt (i := 0) rfl)
  obtain ⟨a2, b2, c2, rfl⟩ := t2.form2
  have d := d.callP (AcG.kp _ _) k2 t2
  refine W.bs e2 ?_
  ((try simp only [n1, n2, n3, n4, n5, n6] at d); (with_reducible repeat first | refine W.a1 d ?_ | refine W.a2 ?_ | refine W.a3 ?_ | refine W.bo ?_ | refine W.a5 d fun hw d lw kw => ?_ | refine W.a6 d ?_ | refine W.a7 ?_ | refine W.a8 ?_); (refine W.nD d fun h3 d _ kh3 => ?_); (with_reducible repeat first | refine W.a1 d ?_ | refine W.a2 ?_ | refine W.a3 ?_ | refine W.bo ?_ | refine W.a5 d fun hw d lw kw => ?_ | refine W.a6 d ?_ | refine W.a7 ?_ | refine W.a8 ?_))
  have elen : (l.take i).length = i := by simp; omega
  obtain ⟨a4, h4, S4, e4, d, _, _, _⟩ := d.app1 (i := 1) (j := 3) (bytes := 88) (AcG.kp _ _) rfl rfl (by decide) (.head _) rfl (by decide) rfl (by rw [elen]; omega) (by rw [elen]; omega)
  rw [elen] at e4
  refine W.bs e4 ?_
  rw [← take_snoc hlt] at d
  ((try simp only [n1, n2, n3, n4, n5, n6] at d); (with_reducible repeat first | refine W.a1 d ?_ | refine W.a2 ?_ | refine W.a3 ?_ | refine W.bo ?_ | refine W.a5 d fun hw d lw kw => ?_ | refine W.a6 d ?_ | refine W.a7 ?_ | refine W.a8 ?_))
  refine W.ret ⟨a4, S4, rfl, ?_, (d.tl).takeR 2⟩
  simp only [w64i (n := (i : Int) + 1) (by omega) (by omega)]
  rfl
theorem l11CopyO_loop {base f rb ob pb : Nat} {p : Fp} {l : List Sd} {a : Option Addr} {a0 g a1 g1 : Option Addr} {n0 q n1' q1 : Nat} {v v1 : Int} (hl : l.length ≤ 1048576) (hB : ∀ x ∈ l, TmB f x.t) {V : Fp} {h0 : AH} : ∀ (n i : Nat) (h : AH) (ao : Option Addr) (S : Fp), i + n = l.length → Hs base V h0 h [(ob, 36, plV a0 n0 g q v ao i), (pb, 36, plV a1 n1' g1 q1 v1 a l.length)] [rIn p fun y => SsR y p f l a, rSs base f S (l.take i) ao] →
  Wp (loopL (B33_1 base) [some (.pointer (at0 pb)), some (.pointer (at0 rb)), some (.pointer (at0 ob)), some (.int .i64 (i : Int))] h) fun o => ∃ a' S', o.1 = 4 ∧ o.2.1 = [some (.pointer (at0 rb)), some (.pointer (at0 ob))] ∧ Hs base V h0 o.2.2 [(ob, 36, plV a0 n0 g q v a' l.length), (pb, 36, plV a1 n1' g1 q1 v1 a l.length)] [rIn p fun y => SsR y p f l a, rSs base f S' l a'] := by
 intro n
 induction n with
 | zero =>
  intro i h ao S hi d
  have hi' : i = l.length := by omega
  subst hi'
  rw [List.take_of_length_le (Nat.le_refl _)] at d
  suffices w : Wp (B33_1 base [some (.pointer (at0 pb)), some (.pointer (at0 rb)), some (.pointer (at0 ob)), some (.int .i64 (l.length : Int))] h) fun o => o = (4, [some (.pointer (at0 rb)), some (.pointer (at0 ob))], h) by
   obtain ⟨o, e, rfl⟩ := w
   exact ⟨_, loop_off (by decide) e, ao, S, rfl, rfl, d⟩
  rw [B33_1_eq]
  ((try simp only [n1, n2, n3, n4, n5, n6] at d); (with_reducible repeat first | refine W.a1 d ?_ | refine W.a2 ?_ | refine W.a3 ?_ | refine W.bo ?_ | refine W.a5 d fun hw d lw kw => ?_ | refine W.a6 d ?_ | refine W.a7 ?_ | refine W.a8 ?_))
  exact W.ifF (by simp) (W.ret rfl)
 | succ n ih =>
  intro i h ao S hi d
  have hlt : i < l.length := by omega
  suffices w : Wp (B33_1 base [some (.pointer (at0 pb)), some (.pointer (at0 rb)), some (.pointer (at0 ob)), some (.int .i64 (i : Int))] h) fun o => ∃ a' S', o.1 = 0 ∧ o.2.1 = [some (.pointer (at0 pb)), some (.pointer (at0 rb)), some (.pointer (at0 ob)), some (.int .i64 ((i + 1 : Nat) : Int))] ∧ Hs base V h0 o.2.2 [(ob, 36, plV a0 n0 g q v a' (i + 1)), (pb, 36, plV a1 n1' g1 q1 v1 a l.length)] [rIn p fun y => SsR y p f l a, rSs base f S' (l.take (i + 1)) a'] by
   obtain ⟨⟨o1, o2, h'⟩, e, a', S', y1, y2, d'⟩ := w
   simp only at y1 y2 d'
   subst y1; subst y2
   obtain ⟨o, eo, q⟩ := ih (i + 1) h' a' S' (by omega) d'
   exact ⟨o, loop_on e eo, q⟩
  rw [B33_1_eq]
  ((try simp only [n1, n2, n3, n4, n5, n6] at d); (with_reducible repeat first | refine W.a1 d ?_ | refine W.a2 ?_ | refine W.a3 ?_ | refine W.bo ?_ | refine W.a5 d fun hw d lw kw => ?_ | refine W.a6 d ?_ | refine W.a7 ?_ | refine W.a8 ?_))
  refine W.ifT (decide_eq_true (by show (i : Int) < (l.length : Int); omega)) ?_
  ((try simp only [n1, n2, n3, n4, n5, n6] at d); (with_reducible repeat first | refine W.a1 d ?_ | refine W.a2 ?_ | refine W.a3 ?_ | refine W.bo ?_ | refine W.a5 d fun hw d lw kw => ?_ | refine W.a6 d ?_ | refine W.a7 ?_ | refine W.a8 ?_))
  rw [Int.toNat_natCast]
  refine W.s6 (d.rs (i := 0) rfl) hlt fun k n s a2 m hm => ?_
  have d := d.also (i := 0) rfl rfl _ hm (fun U y y' k hs x => TmR.keep k hs _ _ _ x)
  ((try simp only [n1, n2, n3, n4, n5, n6] at d); (with_reducible repeat first | refine W.a1 d ?_ | refine W.a2 ?_ | refine W.a3 ?_ | refine W.bo ?_ | refine W.a5 d fun hw d lw kw => ?_ | refine W.a6 d ?_ | refine W.a7 ?_ | refine W.a8 ?_); (refine W.nD d fun h1 d _ kh1 => ?_); (with_reducible repeat first | refine W.a1 d ?_ | refine W.a2 ?_ | refine W.a3 ?_ | refine W.bo ?_ | refine W.a5 d fun hw d lw kw => ?_ | refine W.a6 d ?_ | refine W.a7 ?_ | refine W.a8 ?_))
  obtain ⟨cs, h2, e2, t2, k2⟩ := l1CopyG_run (base := base) f _ p _ _ (d.rs (i := 2) rfl) (hB _ (List.getElem_mem hlt)) d.ge (d.rlt (i := 0) rfl)
  obtain ⟨k', n', s', a', m', rfl⟩ := t2.form
  have sd : SdD f (iS _ h2.length) h2 l[i] (saidV l[i].kind l[i].pid k' n' s' a' m') := ⟨_, _, _, _, _, rfl, t2.d⟩
  have d := d.callP (SdD.kp _) k2 sd
  refine W.bs e2 ?_
  ((try simp only [n1, n2, n3, n4, n5, n6] at d); (with_reducible repeat first | refine W.a1 d ?_ | refine W.a2 ?_ | refine W.a3 ?_ | refine W.bo ?_ | refine W.a5 d fun hw d lw kw => ?_ | refine W.a6 d ?_ | refine W.a7 ?_ | refine W.a8 ?_); (refine W.nD d fun h3 d _ kh3 => ?_); (with_reducible repeat first | refine W.a1 d ?_ | refine W.a2 ?_ | refine W.a3 ?_ | refine W.bo ?_ | refine W.a5 d fun hw d lw kw => ?_ | refine W.a6 d ?_ | refine W.a7 ?_ | refine W.a8 ?_))
  have elen : (l.take i).length = i := by simp; omega
  obtain ⟨a4, h4, S4, e4, d, _, _, _⟩ := d.app1 (i := 1) (j := 3) (bytes := 72) (SdD.kp _) rfl rfl (by decide) (.head _) rfl (by decide) rfl (by rw [elen]; omega) (by rw [elen]; omega)
  rw [elen] at e4
  refine W.bs e4 ?_
  rw [← take_snoc hlt] at d
  ((try simp only [n1, n2, n3, n4, n5, n6] at d); (with_reducible repeat first | refine W.a1 d ?_ | refine W.a2 ?_ | refine W.a3 ?_ | refine W.bo ?_ | refine W.a5 d fun hw d lw kw => ?_ | refine W.a6 d ?_ | refine W.a7 ?_ | refine W.a8 ?_))
  refine W.ret ⟨a4, S4, rfl, ?_, (d.tl.tl).takeR 2⟩
  simp only [w64i (n := (i : Int) + 1) (by omega) (by omega)]
  rfl
theorem l11Copy_run {base f : Nat} {p : Fp} {P : Pl} {cs : List Value} {h : AH} (hB : PlB f P) (x : PlR h p f P cs) (hp : ∀ b, p b → b < h.length) (hb : base ≤ h.length) :
  ∃ cs' h', run (Et base) 33 [.agg cs.toArray] h = some (.agg cs'.toArray, h') ∧ PlG base f (iS h.length h'.length) h' P cs' ∧ KB NoB h h' := by
 obtain ⟨a, b, g, rfl, hc, hcb, ha, ho⟩ := x
 obtain ⟨b1, b2, b3, b4, b5, b6⟩ := hB
 suffices w : Wp (run (Et base) 33 [.agg (plV a P.code.length b P.acs.length P.next g P.out.length).toArray] h) fun o => ∃ cs', o.1 = .agg cs'.toArray ∧ PlG base f (iS h.length o.2.length) o.2 P cs' ∧ KB NoB h o.2 by
  obtain ⟨⟨u, h'⟩, e, cs', rfl, q⟩ := w
  exact ⟨cs', h', e, q⟩
 have d := ((Hs.start hb).inp p _ ha (fun U y y' k hs x => AsR.keep k hs x) hp (fun x hx => nomatch hx) rfl).inp p _ ho (fun U y y' k hs x => SsR.keep k hs x) hp (fun x hx => nomatch hx) rfl
 refine W.of (fun r hx => Am.r33 hx) ?_
 ((try simp only [n1, n2, n3, n4, n5, n6] at d); (with_reducible repeat first | refine W.a1 d ?_ | refine W.a2 ?_ | refine W.a3 ?_ | refine W.bo ?_ | refine W.a5 d fun hw d lw kw => ?_ | refine W.a6 d ?_ | refine W.a7 ?_ | refine W.a8 ?_); (refine W.nD d fun h1 d _ kh1 => ?_); (with_reducible repeat first | refine W.a1 d ?_ | refine W.a2 ?_ | refine W.a3 ?_ | refine W.bo ?_ | refine W.a5 d fun hw d lw kw => ?_ | refine W.a6 d ?_ | refine W.a7 ?_ | refine W.a8 ?_); (refine W.nD d fun h2 d _ kh2 => ?_); (with_reducible repeat first | refine W.a1 d ?_ | refine W.a2 ?_ | refine W.a3 ?_ | refine W.bo ?_ | refine W.a5 d fun hw d lw kw => ?_ | refine W.a6 d ?_ | refine W.a7 ?_ | refine W.a8 ?_); (refine W.nD d fun h3 d _ kh3 => ?_); (with_reducible repeat first | refine W.a1 d ?_ | refine W.a2 ?_ | refine W.a3 ?_ | refine W.bo ?_ | refine W.a5 d fun hw d lw kw => ?_ | refine W.a6 d ?_ | refine W.a7 ?_ | refine W.a8 ?_))
 have hraw : rawAt h3 a (P.code.length * 6) = some (insR P.code) := by
  have := (hc.keep d.kb fun _ _ h => h).raw (insR_leaf _)
  rw [insR_len] at this
  exact this
 obtain ⟨a3, h4, S3, e3, d, hS3, k3, _⟩ := Hs.appD (n := 0) (m := P.code.length) (bytes := 56) d (by rfl) (by decide) hraw (by omega) (by omega) (insR_len _)
 simp only [Nat.zero_add, List.nil_append] at e3 d
 refine W.bs e3 ?_
 ((try simp only [n1, n2, n3, n4, n5, n6] at d); (with_reducible repeat first | refine W.a1 d ?_ | refine W.a2 ?_ | refine W.a3 ?_ | refine W.bo ?_ | refine W.a5 d fun hw d lw kw => ?_ | refine W.a6 d ?_ | refine W.a7 ?_ | refine W.a8 ?_); (refine W.nD d fun h5 d _ kh5 => ?_); (with_reducible repeat first | refine W.a1 d ?_ | refine W.a2 ?_ | refine W.a3 ?_ | refine W.bo ?_ | refine W.a5 d fun hw d lw kw => ?_ | refine W.a6 d ?_ | refine W.a7 ?_ | refine W.a8 ?_))
 have d := d.call (KB.refl NoB _) (fun _ => False) (fun y => RowO base 118 5 (AcG base f) (fun _ => False) y [] none) RowO.nil (fun U y y' k hs x => x.keep (AcG.kp _ _) k hs) (fun _ h => h.elim)
 have d := d.call (KB.refl NoB _) (fun _ => False) (fun y => RowO base 137 6 (SdD f) (fun _ => False) y [] none) RowO.nil (fun U y y' k hs x => x.keep (SdD.kp _) k hs) (fun _ h => h.elim)
 have d := (((d.front (.there (.there .here))).front (.there .here)).frontR (Del.at (i := 3) rfl)).frontR (Del.at (i := 1) rfl)
 simp only [n1, n2, n5, n6] at d
 have d1 := Hs.part (D1 := [_, _]) (R1 := [_, _]) d
 refine W.wb (l11CopyA_loop (base := base) b3 b4 P.acs.length 0 _ none _ (by omega) d1) ?_
 rintro ⟨o1, o2, h6⟩ ⟨a6, S6, y1, y2, d6⟩
 simp only at y1 y2 d6
 subst y1; subst y2
 have d := Hs.back (D1 := [_, _]) (R1 := [_, _]) d d6 (im2 rfl rfl)
 refine W.ifT rfl ?_
 ((try simp only [n1, n2, n3, n4, n5, n6] at d); (with_reducible repeat first | refine W.a1 d ?_ | refine W.a2 ?_ | refine W.a3 ?_ | refine W.bo ?_ | refine W.a5 d fun hw d lw kw => ?_ | refine W.a6 d ?_ | refine W.a7 ?_ | refine W.a8 ?_))
 have d := (d.frontR (Del.at (i := 4) rfl)).frontR (Del.at (i := 3) rfl)
 simp only [n1, n2, n5, n6] at d
 have d1 := Hs.part (D1 := [_, _]) (R1 := [_, _]) d
 refine W.wb (l11CopyO_loop (base := base) b5 b6 P.out.length 0 _ none _ (by omega) d1) ?_
 rintro ⟨o1, o2, h7⟩ ⟨a7, S7, y1, y2, d7⟩
 simp only at y1 y2 d7
 subst y1; subst y2
 have d := Hs.back (D1 := [_, _]) (R1 := [_, _]) d d7 (im2 rfl rfl)
 refine W.ifT rfl ?_
 ((try simp only [n1, n2, n3, n4, n5, n6] at d); (with_reducible repeat first | refine W.a1 d ?_ | refine W.a2 ?_ | refine W.a3 ?_ | refine W.bo ?_ | refine W.a5 d fun hw d lw kw => ?_ | refine W.a6 d ?_ | refine W.a7 ?_ | refine W.a8 ?_))
 exact W.ret ⟨_, rfl, PlG.of d (i := 4) (j := 3) (k := 1) (by decide) (by decide) (by decide) rfl hS3 rfl rfl, d.kb⟩
end Go.Proofs.YtjmkbglnjklbcaaGreat.Am
set_option linter.unusedSimpArgs false
set_option linter.unusedVariables false
namespace Go.Proofs.YtjmkbglnjklbcaaGreat.Am
open Go Go.RowKit
theorem rawAt_keep {U : Fp} {h h' : AH} {a : Option Addr} {n : Nat} {vs : List Value} (k : KB U h h') (hU : ∀ b, blk a b → ¬ U b) (e : rawAt h a n = some vs) : rawAt h' a n = some vs := by
 unfold rawAt at e ⊢
 split at e
 ·rename_i h0; rw [if_pos h0]; exact e
 ·rename_i h0
  rw [if_neg h0]
  cases a with
  | none => cases e
  | some ad =>
   simp only [Option.bind_some] at e ⊢
   cases hg : hget h ad.block with
   | none => rw [hg] at e; cases e
   | some kk =>
    rw [k.2 _ (hget_lt hg) (hU _ ⟨ad, rfl, rfl⟩), hg]
    rw [hg] at e
    exact e
theorem rawAt_part {h : AH} {a : Option Addr} {vs : List Value} {n m : Nat} (hs : Sl h a vs) (hl : vs.all leaf = true) (hnm : n + m ≤ vs.length) : rawAt h (shiftA a n) m = some ((vs.drop n).take m) := by
 have h1 := hs.part hnm
 have h2 : ((vs.drop n).take m).all leaf = true := by
  rw [List.all_eq_true] at hl ⊢
  exact fun v hv => hl v (List.mem_of_mem_drop (List.mem_of_mem_take hv))
 have := h1.raw h2
 rw [show ((vs.drop n).take m).length = m from by simp; omega] at this
 exact this
namespace Hs
variable {base : Nat} {W : Fp} {h0 h : AH} {D : Ds} {R : List Rs}
theorem appO {t w bytes i n m : Nat} {S : Fp} {a : Option Addr} {olds new : List Value} {src : Option (List Value)} (d : Hs base W h0 h D R) (ei : R[i]? = some ⟨S, true, fun x => Own base t x a olds⟩) (hS : ∀ b, blk a b → S b) (hs : src = some new) (hw : 0 < w) (hn : olds.length = n * w) (hm : new.length = m * w) (h1 : (n + m) * bytes ≤ 140737488355328) (h2 : n + m ≤ 9223372036854775807) :
  ∃ a' h', Am.app base h t w bytes a n src m = some (.slice a' (n + m) (n + m), h') ∧ Hs base W h0 h' D (R.set i ⟨blk a', true, fun x => Own base t x a' (olds ++ new)⟩) ∧ (∀ b, blk a' b → S b ∨ b = h.length) ∧ KB S h h' := by
 obtain ⟨a', h', e, o, k, q⟩ := Own.app (x := d.rs ei) (bytes := bytes) (m := m) hn hw hs d.ge h1 h2 hm
 have k : KB S h h' := k.mono fun b _ hb => hS b hb
 have q' : ∀ b, blk a' b → S b ∨ b = h.length := fun b hb => by
  rcases q with ⟨_, e, _⟩ | q
  ·exact .inl (hS b (e ▸ hb))
  ·exact .inr (q b hb)
 exact ⟨a', h', e, d.upd (Upd.at ei) rfl rfl k (fun b hb => .inl hb) o (fun U y y' ky hs x => x.keep ky hs) (fun b hb => (q' b hb).imp id fun e => ⟨by omega, (o.lt hb).2⟩), q', k⟩
theorem cut {α : Type} {t w i j q : Nat} {P : Fp → AH → α → List Value → Prop} {S S2 : Fp} {l : List α} {a a' : Option Addr} {vs : List Value} (d : Hs base W h0 h D R) (kp : Kp P) (ei : R[i]? = some ⟨S, true, fun x => RowO base t w P S x l a⟩) (hq : q < l.length) (hlf : ∀ S h x cs, P S h x cs → cs.all leaf = true) (hw : 0 < w) (hraw : rawAt h a (l.length * w) = some vs) (hij : i ≠ j) (ej : R[j]? = some ⟨S2, true, fun x => Own base t x a' (vs.take (q * w) ++ vs.drop ((q + 1) * w))⟩) (hS2 : ∀ b, blk a' b → S2 b) :
  ∃ C S', Hs base W h0 h D ((R.set i ⟨S', true, fun x => RowO base t w P S' x (l.take q ++ l.drop (q + 1)) a'⟩).set j ⟨C, true, fun x => P C x l[q] (chunk w q vs)⟩) ∧ (∀ b, C b → S b) ∧ (∀ b, S' b → S b ∨ S2 b) := by
 have row : RowO base t w P S h l a := d.rs ei
 obtain ⟨vs', T, er, ev, hsl, hT, hb, ch⟩ := row.raws hlf hw
 rw [er] at hraw
 injection hraw with hraw
 subst hraw
 obtain ⟨C, hC, hCT, chd⟩ := ch.del ev hq
 have o : Own base t h a' (vs'.take (q * w) ++ vs'.drop ((q + 1) * w)) := d.rs ej
 have dj : ∀ b, S2 b → ¬ S b := by
  obtain ⟨hi, r1⟩ := List.getElem?_eq_some_iff.1 ei
  obtain ⟨hj, r2⟩ := List.getElem?_eq_some_iff.1 ej
  rcases Nat.lt_or_gt_of_ne hij with hlt | hgt
  ·have := List.pairwise_iff_getElem.1 d.dj i j hi hj hlt
   rw [r1, r2] at this
   exact fun b h1 h2 => this rfl b h2 h1
  ·have := List.pairwise_iff_getElem.1 d.dj j i hj hi hgt
   rw [r1, r2] at this
   exact fun b h1 h2 => this rfl b h1 h2
 have hle := mul_le' (w := w) hq
 have hl1 : (vs'.take (q * w) ++ vs'.drop ((q + 1) * w)).length = (l.take q ++ l.drop (q + 1)).length * w := by
  have e1 : (l.length - (q + 1)) * w = l.length * w - (q * w + w) := by rw [Nat.sub_mul, Nat.add_mul, Nat.one_mul]
  have e2 : (q + 1) * w = q * w + w := by rw [Nat.add_mul, Nat.one_mul]
  rw [List.length_append, List.length_append, List.length_take, List.length_drop, List.length_take, List.length_drop, Nat.min_eq_left (by omega), Nat.min_eq_left (by omega), ev, e2]
  have e3 := Nat.add_mul q (l.length - (q + 1)) w
  omega
 refine ⟨C, fun b => S2 b ∨ (T b ∧ ¬ C b), ?_, fun b hb => hT b (hCT b hb), fun b hb => hb.elim .inr fun h => .inl (hT b h.1)⟩
 have row' : RowO base t w P (fun b => S2 b ∨ (T b ∧ ¬ C b)) h (l.take q ++ l.drop (q + 1)) a' :=
  ⟨_, fun b => T b ∧ ¬ C b, o, hl1, fun b hb => ⟨.inl (hS2 b hb), fun hh => dj b (hS2 b hb) (hT b hh.1)⟩, fun b hb => .inr hb, chd⟩
 obtain ⟨i1, r1⟩ := List.getElem?_eq_some_iff.1 ei
 obtain ⟨j1, r2⟩ := List.getElem?_eq_some_iff.1 ej
 have ri := d.res _ (List.mem_of_getElem? ei)
 have rj := d.res _ (List.mem_of_getElem? ej)
 have get : ∀ k (hk : k < ((R.set i ⟨fun b => S2 b ∨ (T b ∧ ¬ C b), true, fun x => RowO base t w P (fun b => S2 b ∨ (T b ∧ ¬ C b)) x (l.take q ++ l.drop (q + 1)) a'⟩).set j ⟨C, true, fun x => P C x l[q] (chunk w q vs')⟩).length), ((R.set i ⟨fun b => S2 b ∨ (T b ∧ ¬ C b), true, fun x => RowO base t w P (fun b => S2 b ∨ (T b ∧ ¬ C b)) x (l.take q ++ l.drop (q + 1)) a'⟩).set j ⟨C, true, fun x => P C x l[q] (chunk w q vs')⟩)[k] = if k = j then ⟨C, true, fun x => P C x l[q] (chunk w q vs')⟩ else if k = i then ⟨fun b => S2 b ∨ (T b ∧ ¬ C b), true, fun x => RowO base t w P (fun b => S2 b ∨ (T b ∧ ¬ C b)) x (l.take q ++ l.drop (q + 1)) a'⟩ else R[k]'(by simpa using hk) := by
  intro k hk
  rw [List.getElem_set]
  by_cases e : j = k
  ·subst e; simp
  ·rw [if_neg e, if_neg (by omega), List.getElem_set]
   by_cases e2 : i = k
   ·subst e2; simp
   ·rw [if_neg e2, if_neg (by omega)]
 refine ⟨d.ge, d.kb, d.own, d.nd, fun r hr => ?_, ?_⟩
 ·obtain ⟨k, hk, rfl⟩ := List.mem_iff_getElem.1 hr
  rw [get k hk]
  split
  ·exact ⟨hC, fun U y y' ky hs x => kp _ U y y' _ _ ky hs x, fun b hb => ri.2.2.1 b (hT b (hCT b hb)), fun _ b hb => ri.2.2.2.1 rfl b (hT b (hCT b hb)), fun x hx hb => ri.2.2.2.2 x hx (hT _ (hCT _ hb))⟩
  ·split
   ·refine ⟨row', fun U y y' ky hs x => x.keep kp ky hs, fun b hb => ?_, fun _ b hb => ?_, fun x hx hb => ?_⟩
    ·rcases hb with hb | hb
     ·exact rj.2.2.1 b hb
     ·exact ri.2.2.1 b (hT b hb.1)
    ·rcases hb with hb | hb
     ·exact rj.2.2.2.1 rfl b hb
     ·exact ri.2.2.2.1 rfl b (hT b hb.1)
    ·rcases hb with hb | hb
     ·exact rj.2.2.2.2 x hx hb
     ·exact ri.2.2.2.2 x hx (hT _ hb.1)
   ·exact d.res _ (List.getElem_mem _)
 ·rw [List.pairwise_iff_getElem]
  intro k1 k2 hk1 hk2 hlt
  have old : ∀ (k : Nat) (hk : k < R.length) (b : Nat), k ≠ i → k ≠ j → (R[k]'hk).S b → ¬ S b ∧ ¬ S2 b := by
   intro k hk b h1 h2 hb
   refine ⟨fun hs => ?_, fun hs => ?_⟩
   ·rcases Nat.lt_or_gt_of_ne h1 with hh | hh
    ·have := List.pairwise_iff_getElem.1 d.dj k i hk i1 hh
     rw [r1] at this
     exact this (by simp) b hb hs
    ·have := List.pairwise_iff_getElem.1 d.dj i k i1 hk hh
     rw [r1] at this
     exact this (by simp) b hs hb
   ·rcases Nat.lt_or_gt_of_ne h2 with hh | hh
    ·have := List.pairwise_iff_getElem.1 d.dj k j hk j1 hh
     rw [r2] at this
     exact this (by simp) b hb hs
    ·have := List.pairwise_iff_getElem.1 d.dj j k j1 hk hh
     rw [r2] at this
     exact this (by simp) b hs hb
  rw [get k1 hk1, get k2 hk2]
  intro e b hb1 hb2
  by_cases c1 : k1 = j
  ·rw [if_pos c1] at hb1
   have hs : S b := hT b (hCT b hb1)
   rw [if_neg (by omega)] at hb2
   by_cases c2 : k2 = i
   ·rw [if_pos c2] at hb2
    rcases hb2 with hb2 | hb2
    ·exact dj b hb2 hs
    ·exact hb2.2 hb1
   ·rw [if_neg c2] at hb2
    exact (old k2 _ b c2 (by omega) hb2).1 hs
  ·rw [if_neg c1] at hb1
   by_cases c2 : k1 = i
   ·rw [if_pos c2] at hb1
    have hs : S b ∨ S2 b := hb1.elim .inr fun h => .inl (hT b h.1)
    by_cases c3 : k2 = j
    ·rw [if_pos c3] at hb2
     rcases hb1 with hb1 | hb1
     ·exact dj b hb1 (hT b (hCT b hb2))
     ·exact hb1.2 hb2
    ·rw [if_neg c3, if_neg (by omega)] at hb2
     have := old k2 _ b (by omega) c3 hb2
     exact hs.elim this.1 this.2
   ·rw [if_neg c2] at hb1
    have o1 := old k1 _ b c2 c1 hb1
    by_cases c3 : k2 = j
    ·rw [if_pos c3] at hb2
     exact o1.1 (hT b (hCT b hb2))
    ·rw [if_neg c3] at hb2
     by_cases c4 : k2 = i
     ·rw [if_pos c4] at hb2
      exact hb2.elim o1.2 fun h => o1.1 (hT b h.1)
     ·rw [if_neg c4] at hb2
      rw [if_neg c1, if_neg c2, if_neg c3, if_neg c4] at e
      exact List.pairwise_iff_getElem.1 d.dj k1 k2 (by simpa using hk1) (by simpa using hk2) hlt e b hb1 hb2
end Hs
end Go.Proofs.YtjmkbglnjklbcaaGreat.Am
set_option linter.unusedSimpArgs false
set_option linter.unusedVariables false
namespace Go.Proofs.YtjmkbglnjklbcaaGreat.Am
open Go Go.RowKit
def dropI (v : Int) (l : List Int) : List Int := l.filter fun n => n != v
theorem dropI_snoc {v x : Int} {l : List Int} : dropI v (l ++ [x]) = if (x != v) = true then dropI v l ++ [x] else dropI v l := by
 unfold dropI
 rw [List.filter_append]
 by_cases c : (x != v) = true
 ·rw [if_pos c]; simp [c]
 ·rw [if_neg c]; simp [c]
theorem dropI_len {v : Int} {l : List Int} : (dropI v l).length ≤ l.length := List.length_filter_le _ _
theorem W.ri {β : Type} {Q : β → Prop} {h : AH} {zs : List Int} {a : Option Addr} (hs : Sl h a (iv .i64 zs)) {i : Nat} (hi : i < zs.length) {f : Int → Option β} (w : Wp (f zs[i]) Q) : Wp (a.bind fun ad => ((Am.cell h ad.block (ad.off + i * 1)).bind (getI .i64)).bind f) Q := by
 obtain ⟨ad, rfl, g⟩ := int_get hs hi
 exact W.bs rfl (W.bI g w)
theorem l11Drop_loop {base : Nat} {v : Int} {zs : List Int} {a : Option Addr} (hl : zs.length ≤ 1048576 * 4) {h0 : AH} (hs : Sl h0 a (iv .i64 zs)) : ∀ (n i : Nat) (h : AH) (ao : Option Addr) (S : Fp), i + n = zs.length → Hs base NoB h0 h [] [⟨S, true, fun y => Own base 3 y ao (iv .i64 (dropI v (zs.take i)))⟩] → (∀ b, blk ao b → S b) →
  Wp (loopL (B104_0 base) [some (.slice a zs.length zs.length), some (.int .i64 v), some (.slice ao (dropI v (zs.take i)).length (dropI v (zs.take i)).length), some (.int .i64 (i : Int))] h) fun o => ∃ a' S', o.1 = 2 ∧ o.2.1 = [some (.slice a' (dropI v zs).length (dropI v zs).length)] ∧ Hs base NoB h0 o.2.2 [] [⟨S', true, fun y => Own base 3 y a' (iv .i64 (dropI v zs))⟩] ∧ (∀ b, blk a' b → S' b) := by
 intro n
 induction n with
 | zero =>
  intro i h ao S hi d hS
  have hi' : i = zs.length := by omega
  subst hi'
  rw [List.take_of_length_le (Nat.le_refl _)] at d ⊢
  refine ⟨_, loop_off (by decide) (s' := [some (.slice ao (dropI v zs).length (dropI v zs).length)]) (h' := h) (e := 2) ?_, ao, S, rfl, rfl, d, hS⟩
  rw [B104_0_eq]
  exact Am.ifF (by simp) rfl
 | succ n ih =>
  intro i h ao S hi d hS
  have hlt : i < zs.length := by omega
  have hsn : dropI v (zs.take (i + 1)) = if (zs[i] != v) = true then dropI v (zs.take i) ++ [zs[i]] else dropI v (zs.take i) := by rw [take_snoc hlt, dropI_snoc]
  suffices w : Wp (B104_0 base [some (.slice a zs.length zs.length), some (.int .i64 v), some (.slice ao (dropI v (zs.take i)).length (dropI v (zs.take i)).length), some (.int .i64 (i : Int))] h) fun o => ∃ a' S', o.1 = 0 ∧ o.2.1 = [some (.slice a zs.length zs.length), some (.int .i64 v), some (.slice a' (dropI v (zs.take (i + 1))).length (dropI v (zs.take (i + 1))).length), some (.int .i64 ((i + 1 : Nat) : Int))] ∧ Hs base NoB h0 o.2.2 [] [⟨S', true, fun y => Own base 3 y a' (iv .i64 (dropI v (zs.take (i + 1))))⟩] ∧ (∀ b, blk a' b → S' b) by
   obtain ⟨⟨o1, o2, h'⟩, e, a', S', y1, y2, d', hS'⟩ := w
   simp only at y1 y2 d'
   subst y1; subst y2
   obtain ⟨o, eo, q⟩ := ih (i + 1) h' a' S' (by omega) d' hS'
   exact ⟨o, loop_on e eo, q⟩
  have hlen : (dropI v (zs.take i)).length ≤ zs.length := Nat.le_trans dropI_len (by simp; omega)
  rw [B104_0_eq]
  refine W.ifT (decide_eq_true (by omega)) (W.join (W.ifT ⟨by omega, by omega⟩ ?_))
  rw [Int.toNat_natCast]
  refine W.ri (hs.keepN d.kb) hlt (W.ite (fun c => ?_) (fun c => ?_))
  ·refine W.ifT ⟨by omega, by omega⟩ (W.ri (hs.keepN d.kb) hlt ?_)
   ((try simp only [n1, n2, n3, n4, n5, n6] at d); (with_reducible repeat first | refine W.a1 d ?_ | refine W.a2 ?_ | refine W.a3 ?_ | refine W.bo ?_ | refine W.a5 d fun hw d lw kw => ?_ | refine W.a6 d ?_ | refine W.a7 ?_ | refine W.a8 ?_); (refine W.nD d fun h1 d _ kh1 => ?_); (with_reducible repeat first | refine W.a1 d ?_ | refine W.a2 ?_ | refine W.a3 ?_ | refine W.bo ?_ | refine W.a5 d fun hw d lw kw => ?_ | refine W.a6 d ?_ | refine W.a7 ?_ | refine W.a8 ?_))
   obtain ⟨a2, h2, e2, d, q2, k2, _⟩ := d.app1O (w := 1) (i := 0) (n := (dropI v (zs.take i)).length) (bytes := 8) rfl hS (.head _) rfl (by decide) (by simp) rfl (by omega) (by omega)
   refine W.bs e2 ?_
   ((try simp only [n1, n2, n3, n4, n5, n6] at d); (with_reducible repeat first | refine W.a1 d ?_ | refine W.a2 ?_ | refine W.a3 ?_ | refine W.bo ?_ | refine W.a5 d fun hw d lw kw => ?_ | refine W.a6 d ?_ | refine W.a7 ?_ | refine W.a8 ?_))
   refine W.il ?_
   ((try simp only [n1, n2, n3, n4, n5, n6] at d); (with_reducible repeat first | refine W.a1 d ?_ | refine W.a2 ?_ | refine W.a3 ?_ | refine W.bo ?_ | refine W.a5 d fun hw d lw kw => ?_ | refine W.a6 d ?_ | refine W.a7 ?_ | refine W.a8 ?_))
   rw [w64i (n := (i : Int) + 1) (by omega) (by omega)]
   rw [hsn, if_pos c]
   refine W.ret ⟨a2, _, rfl, by simp, ?_, fun _ h => h⟩
   have := d.tl
   rw [show [vI zs[i]] = iv .i64 [zs[i]] from rfl, iv_append] at this
   exact this
  ·refine W.il ?_
   ((try simp only [n1, n2, n3, n4, n5, n6] at d); (with_reducible repeat first | refine W.a1 d ?_ | refine W.a2 ?_ | refine W.a3 ?_ | refine W.bo ?_ | refine W.a5 d fun hw d lw kw => ?_ | refine W.a6 d ?_ | refine W.a7 ?_ | refine W.a8 ?_))
   rw [w64i (n := (i : Int) + 1) (by omega) (by omega)]
   rw [hsn, if_neg c]
   exact W.ret ⟨ao, S, rfl, rfl, d, hS⟩
theorem l11Drop_run {base : Nat} {v : Int} {zs : List Int} {a : Option Addr} {h : AH} (hl : zs.length ≤ 1048576 * 4) (hs : Sl h a (iv .i64 zs)) (hb : base ≤ h.length) :
  ∃ a' h', run (Et base) 104 [.slice a zs.length zs.length, .int .i64 v] h = some (.slice a' (dropI v zs).length (dropI v zs).length, h') ∧ Own base 3 h' a' (iv .i64 (dropI v zs)) ∧ KB NoB h h' ∧ (∀ b, blk a' b → h.length ≤ b) := by
 suffices w : Wp (run (Et base) 104 [.slice a zs.length zs.length, .int .i64 v] h) fun o => ∃ a', o.1 = .slice a' (dropI v zs).length (dropI v zs).length ∧ Own base 3 o.2 a' (iv .i64 (dropI v zs)) ∧ KB NoB h o.2 ∧ (∀ b, blk a' b → h.length ≤ b) by
  obtain ⟨⟨u, h'⟩, e, a', rfl, q⟩ := w
  exact ⟨a', h', e, q⟩
 have d := Hs.start hb
 refine W.of (fun r hx => Am.r104 hx) ?_
 ((try simp only [n1, n2, n3, n4, n5, n6] at d); (with_reducible repeat first | refine W.a1 d ?_ | refine W.a2 ?_ | refine W.a3 ?_ | refine W.bo ?_ | refine W.a5 d fun hw d lw kw => ?_ | refine W.a6 d ?_ | refine W.a7 ?_ | refine W.a8 ?_); (refine W.nD d fun h1 d _ kh1 => ?_); (with_reducible repeat first | refine W.a1 d ?_ | refine W.a2 ?_ | refine W.a3 ?_ | refine W.bo ?_ | refine W.a5 d fun hw d lw kw => ?_ | refine W.a6 d ?_ | refine W.a7 ?_ | refine W.a8 ?_))
 have d := d.unbox .here
 refine W.wb (l11Drop_loop (base := base) (v := v) hl hs zs.length 0 h1 (at0 h.length) _ (by omega) d fun b hb => blk_at0.1 hb) ?_
 rintro ⟨o1, o2, h2⟩ ⟨a', S', y1, y2, d, hS⟩
 simp only at y1 y2 d
 subst y1; subst y2
 refine W.ifT rfl ?_
 ((try simp only [n1, n2, n3, n4, n5, n6] at d); (with_reducible repeat first | refine W.a1 d ?_ | refine W.a2 ?_ | refine W.a3 ?_ | refine W.bo ?_ | refine W.a5 d fun hw d lw kw => ?_ | refine W.a6 d ?_ | refine W.a7 ?_ | refine W.a8 ?_))
 exact W.ret ⟨a', rfl, d.rs (i := 0) rfl, d.kb, fun b hb => (d.rfr (i := 0) rfl rfl b (hS b hb)).resolve_left fun h => h⟩
end Go.Proofs.YtjmkbglnjklbcaaGreat.Am
set_option linter.unusedSimpArgs false
set_option linter.unusedVariables false
namespace Go.Proofs.YtjmkbglnjklbcaaGreat.Am
open Go Go.RowKit
theorem RowO.blkS {α : Type} {base t w : Nat} {P : Fp → AH → α → List Value → Prop} {S : Fp} {h : AH} {l : List α} {a : Option Addr} (x : RowO base t w P S h l a) : ∀ b, blk a b → S b := by
 obtain ⟨vs, T, _, _, x3, _⟩ := x
 exact fun b hb => (x3 b hb).1
end Go.Proofs.YtjmkbglnjklbcaaGreat.Am
set_option linter.unusedSimpArgs false
set_option linter.unusedVariables false
namespace Go.Proofs.YtjmkbglnjklbcaaGreat.Am
open Go Go.RowKit
def unlk (v : Int) (A : Ac) : Ac := ⟨A.pid, A.pc, A.regs, A.box, dropI v A.links⟩
def cutA (k : Nat) (l : List Ac) : List Ac := l.take k ++ l.drop (k + 1)
def endP (ok : Bool) (t : Tm) : Nat → Int → Pl → Pl
 | 0, _, P => P
 | n + 1, pid, P => if decide (atL pid 0 P.acs < 0) = true then P else
   if ok = true then ⟨P.code, (cutA (atL pid 0 P.acs).toNat P.acs).map (unlk pid), P.next, sayL P.out 3 pid t⟩
   else (P.acs.getD (atL pid 0 P.acs).toNat a0).links.foldl (fun Q m => endP ok t n m Q) ⟨P.code, (cutA (atL pid 0 P.acs).toNat P.acs).map (unlk pid), P.next, sayL P.out 3 pid t⟩
def PE (P : Pl) : Prop := P.acs.length ≤ 1048576 ∧ P.out.length ≤ 1048576 ∧ ∀ A ∈ P.acs, A.links.length ≤ 1048576
theorem cutA_len {k : Nat} {l : List Ac} (h : k < l.length) : (cutA k l).length + 1 = l.length := by unfold cutA; simp; omega
theorem cutA_mem {k : Nat} {l : List Ac} {A : Ac} (h : A ∈ cutA k l) : A ∈ l := by
 rcases List.mem_append.1 h with h | h
 ·exact List.mem_of_mem_take h
 ·exact List.mem_of_mem_drop h
theorem sayL_le {l : List Sd} {kind pid : Int} {t : Tm} (h : l.length ≤ 1048576) : (sayL l kind pid t).length ≤ 1048576 := by
 unfold sayL
 split
 ·exact h
 ·rename_i c; simp at c ⊢; omega
theorem endP_code (ok : Bool) (t : Tm) : ∀ n pid P, (endP ok t n pid P).code = P.code ∧ (endP ok t n pid P).next = P.next
 | 0, _, P => ⟨rfl, rfl⟩
 | n + 1, pid, P => by
  rw [endP]
  split
  ·exact ⟨rfl, rfl⟩
  split
  ·exact ⟨rfl, rfl⟩
  ·have : ∀ (l : List Int) (Q : Pl), (l.foldl (fun Q m => endP ok t n m Q) Q).code = Q.code ∧ (l.foldl (fun Q m => endP ok t n m Q) Q).next = Q.next := by
    intro l
    induction l with
    | nil => intro Q; exact ⟨rfl, rfl⟩
    | cons m l ih => intro Q; obtain ⟨h1, h2⟩ := ih (endP ok t n m Q); obtain ⟨h3, h4⟩ := endP_code ok t n m Q; exact ⟨h1.trans h3, h2.trans h4⟩
   exact this _ _
theorem endP_PE (ok : Bool) (t : Tm) : ∀ n pid P, PE P → PE (endP ok t n pid P) ∧ (endP ok t n pid P).acs.length ≤ P.acs.length
 | 0, _, P, h => ⟨h, Nat.le_refl _⟩
 | n + 1, pid, P, h => by
  rw [endP]
  split
  ·exact ⟨h, Nat.le_refl _⟩
  rename_i c
  have c : ¬ atL pid 0 P.acs < 0 := by simpa using c
  have hlt := atL_lt pid P.acs 0
  have hi : (atL pid 0 P.acs).toNat < P.acs.length := by omega
  have hc := cutA_len hi
  have h1 : PE ⟨P.code, (cutA (atL pid 0 P.acs).toNat P.acs).map (unlk pid), P.next, sayL P.out 3 pid t⟩ := by
   refine ⟨by simp; have := h.1; omega, sayL_le h.2.1, fun A hA => ?_⟩
   obtain ⟨B, hB, rfl⟩ := List.mem_map.1 hA
   exact Nat.le_trans dropI_len (h.2.2 B (cutA_mem hB))
  split
  ·exact ⟨h1, by simp; omega⟩
  ·have : ∀ (l : List Int) (Q : Pl), PE Q → PE (l.foldl (fun Q m => endP ok t n m Q) Q) ∧ (l.foldl (fun Q m => endP ok t n m Q) Q).acs.length ≤ Q.acs.length := by
    intro l
    induction l with
    | nil => intro Q hQ; exact ⟨hQ, Nat.le_refl _⟩
    | cons m l ih =>
     intro Q hQ
     obtain ⟨h1, h2⟩ := endP_PE ok t n m Q hQ
     obtain ⟨h3, h4⟩ := ih _ h1
     exact ⟨h3, Nat.le_trans h4 h2⟩
   obtain ⟨h2, h3⟩ := this (P.acs.getD (atL pid 0 P.acs).toNat a0).links _ h1
   exact ⟨h2, Nat.le_trans h3 (by simp; omega)⟩
theorem AcG.setLinks {base F : Nat} {C U : Fp} {h h2 : AH} {A : Ac} {cs : List Value} {a' : Option Addr} {zs : List Int} (x : AcG base F C h A cs) (k : KB U h h2) (hU : ∀ b, C b → ¬ U b) (o : Own base 3 h2 a' (iv .i64 zs)) (hd : ∀ b, blk a' b → ¬ C b) : AcG base F (fun b => C b ∨ blk a' b) h2 ⟨A.pid, A.pc, A.regs, A.box, zs⟩ (setAt cs 4 [.slice a' zs.length zs.length]) := by
 obtain ⟨ra, rb, rc, S1, S2, S3, rfl, q1, q2, q3, qg, t1, t2, t3, d12, d13, d23⟩ := x
 exact ⟨ra, rb, a', S1, S2, blk a', rfl, q1.keep (TmG.kp _ _) k fun b hb => hU b (t1 b hb), q2.keep (TmG.kp _ _) k fun b hb => hU b (t2 b hb), o, fun _ h => h, fun b hb => .inl (t1 b hb), fun b hb => .inl (t2 b hb), fun b hb => .inr hb, d12, fun b h1 h2 => hd b h2 (t1 b h1), fun b h1 h2 => hd b h2 (t2 b h1)⟩
theorem map_step {α : Type} {f : α → α} {l : List α} {i : Nat} (h : i < l.length) : ((l.take i).map f ++ l.drop i).set i (f l[i]) = (l.take (i + 1)).map f ++ l.drop (i + 1) := by
 rw [List.set_append_right _ _ (by simp only [List.length_map, List.length_take]; omega), List.drop_eq_getElem_cons h]
 have : i - ((l.take i).map f).length = 0 := by rw [List.length_map, List.length_take]; omega
 rw [this, List.set_cons_zero, take_snoc h, List.map_append]
 simp
theorem map_get {α : Type} {f : α → α} {l : List α} {i : Nat} (h : i < l.length) (h2 : i < ((l.take i).map f ++ l.drop i).length) : ((l.take i).map f ++ l.drop i)[i] = l[i] := by
 rw [List.getElem_append_right (by simp only [List.length_map, List.length_take]; omega)]
 have : i - ((l.take i).map f).length = 0 := by rw [List.length_map, List.length_take]; omega
 simp only [this, List.getElem_drop]
 simp
theorem l11Unl_loop {base F pb tb : Nat} {P : Pl} {a b g lk : Option Addr} {lm : Nat} {v : Int} (hl : P.acs.length ≤ 1048576) (hlk : ∀ A ∈ P.acs, A.links.length ≤ 1048576) {V : Fp} {h0 : AH} : ∀ (n i : Nat) (h : AH) (S : Fp), i + n = P.acs.length → Hs base V h0 h [(pb, 36, plV a P.code.length b P.acs.length P.next g P.out.length)] [rAs base F S ((P.acs.take i).map (unlk v) ++ P.acs.drop i) b] →
  Wp (loopL (B37_0 base) [some (.pointer (at0 pb)), some (.int .i64 v), some (.pointer (at0 tb)), some (.slice lk lm lm), some (.int .i64 (i : Int))] h) fun o => o.1 = 2 ∧ o.2.1 = [some (.pointer (at0 pb)), some (.int .i64 v), some (.pointer (at0 tb)), some (.slice lk lm lm)] ∧ ∃ S', Hs base V h0 o.2.2 [(pb, 36, plV a P.code.length b P.acs.length P.next g P.out.length)] [rAs base F S' (P.acs.map (unlk v)) b] := by
 intro n
 induction n with
 | zero =>
  intro i h S hi d
  have hi' : i = P.acs.length := by omega
  subst hi'
  rw [List.take_of_length_le (Nat.le_refl _), List.drop_of_length_le (Nat.le_refl _), List.append_nil] at d
  suffices w : Wp (B37_0 base [some (.pointer (at0 pb)), some (.int .i64 v), some (.pointer (at0 tb)), some (.slice lk lm lm), some (.int .i64 (P.acs.length : Int))] h) fun o => o = (2, [some (.pointer (at0 pb)), some (.int .i64 v), some (.pointer (at0 tb)), some (.slice lk lm lm)], h) by
   obtain ⟨o, e, rfl⟩ := w
   exact ⟨_, loop_off (by decide) e, rfl, rfl, S, d⟩
  rw [B37_0_eq]
  ((try simp only [n1, n2, n3, n4, n5, n6] at d); (with_reducible repeat first | refine W.a1 d ?_ | refine W.a2 ?_ | refine W.a3 ?_ | refine W.bo ?_ | refine W.a5 d fun hw d lw kw => ?_ | refine W.a6 d ?_ | refine W.a7 ?_ | refine W.a8 ?_))
  exact W.ifF (by simp) (W.ret rfl)
 | succ n ih =>
  intro i h S hi d
  have hlt : i < P.acs.length := by omega
  have hlt2 : i < ((P.acs.take i).map (unlk v) ++ P.acs.drop i).length := by simp; omega
  suffices w : Wp (B37_0 base [some (.pointer (at0 pb)), some (.int .i64 v), some (.pointer (at0 tb)), some (.slice lk lm lm), some (.int .i64 (i : Int))] h) fun o => o.1 = 0 ∧ o.2.1 = [some (.pointer (at0 pb)), some (.int .i64 v), some (.pointer (at0 tb)), some (.slice lk lm lm), some (.int .i64 ((i + 1 : Nat) : Int))] ∧ ∃ S', Hs base V h0 o.2.2 [(pb, 36, plV a P.code.length b P.acs.length P.next g P.out.length)] [rAs base F S' ((P.acs.take (i + 1)).map (unlk v) ++ P.acs.drop (i + 1)) b] by
   obtain ⟨⟨o1, o2, h'⟩, e, y1, y2, S', d'⟩ := w
   simp only at y1 y2 d'
   subst y1; subst y2
   obtain ⟨o, eo, q⟩ := ih (i + 1) h' S' (by omega) d'
   exact ⟨o, loop_on e eo, q⟩
  have hSl := d.rlt (i := 0) rfl
  have row : RowO base 118 5 (AcG base F) S h _ b := d.rs (i := 0) rfl
  obtain ⟨C, csA, ad, hA, hcl, rfl, cells, hCS, hSb, hCb, mod⟩ := row.mod (AcG.kp _ _) (by decide) hlt2 hSl
  rw [map_get hlt] at hA
  have hA0 := hA
  obtain ⟨ra, rb, rc, rfl⟩ := hA.form2
  obtain ⟨_, _, rc', _, _, S3, ecs, _, _, q3, qg, _, _, t3, _⟩ := hA
  injection ecs with _ ecs
  injection ecs with _ ecs
  injection ecs with _ ecs
  injection ecs with _ ecs
  injection ecs with ecs _
  injection ecs with ecs _ _
  subst ecs
  rw [B37_0_eq]
  ((try simp only [n1, n2, n3, n4, n5, n6] at d); (with_reducible repeat first | refine W.a1 d ?_ | refine W.a2 ?_ | refine W.a3 ?_ | refine W.bo ?_ | refine W.a5 d fun hw d lw kw => ?_ | refine W.a6 d ?_ | refine W.a7 ?_ | refine W.a8 ?_))
  refine W.ifT (decide_eq_true (by show (i : Int) < (P.acs.length : Int); omega)) ?_
  ((try simp only [n1, n2, n3, n4, n5, n6] at d); (with_reducible repeat first | refine W.a1 d ?_ | refine W.a2 ?_ | refine W.a3 ?_ | refine W.bo ?_ | refine W.a5 d fun hw d lw kw => ?_ | refine W.a6 d ?_ | refine W.a7 ?_ | refine W.a8 ?_))
  rw [Int.toNat_natCast]
  refine W.bS (cells 4 _ rfl) ?_
  have hlk' := hlk _ (List.getElem_mem hlt)
  obtain ⟨a2, h2, e2, o2, k2, f2⟩ := l11Drop_run (base := base) (v := v) (zs := P.acs[i].links) (by omega) q3.sl d.ge
  have d := d.call k2 (blk a2) (fun y => Own base 3 y a2 (iv .i64 (dropI v P.acs[i].links))) o2 (fun U y y' k hs x => Own.keep x k hs) (fun b hb => ⟨f2 b hb, (o2.lt hb).2⟩)
  refine W.bs e2 ?_
  ((try simp only [n1, n2, n3, n4, n5, n6] at d); (with_reducible repeat first | refine W.a1 d ?_ | refine W.a2 ?_ | refine W.a3 ?_ | refine W.bo ?_ | refine W.a5 d fun hw d lw kw => ?_ | refine W.a6 d ?_ | refine W.a7 ?_ | refine W.a8 ?_))
  obtain ⟨h3, e3, r3, k3, z3⟩ := mod NoB (fun b => C b ∨ blk a2 b) h2 _ [.slice a2 (dropI v P.acs[i].links).length (dropI v P.acs[i].links).length] 4 (unlk v P.acs[i]) k2 (fun b h => (h : False).elim) (Nat.le_refl 5) (by simp) rfl (fun h4 k4 => AcG.setLinks hA0 (KB.trans (T := (· = ad.block)) k2 k4 (fun _ _ h => (h : False).elim) fun _ _ h => h) (fun b hb e => hCb (e ▸ hb)) ((d.rs (i := 1) rfl : Own base 3 h2 a2 _).keep k4 fun b hb e => by have := f2 b hb; have := hSl _ hSb; omega) (fun b hb hc => by have := f2 b hb; have := hSl _ (hCS b hc); omega)) (fun b hb hs => hb.resolve_right fun hc => by have := f2 b hc; have := hSl _ hs; omega)
  refine W.bs e3 ?_
  ((try simp only [n1, n2, n3, n4, n5, n6] at d); (with_reducible repeat first | refine W.a1 d ?_ | refine W.a2 ?_ | refine W.a3 ?_ | refine W.bo ?_ | refine W.a5 d fun hw d lw kw => ?_ | refine W.a6 d ?_ | refine W.a7 ?_ | refine W.a8 ?_))
  rw [w64i (n := (i : Int) + 1) (by omega) (by omega)]
  refine W.ret ⟨rfl, rfl, fun b => S b ∨ C b ∨ blk a2 b, ?_⟩
  rw [map_step hlt] at r3
  exact (d.joinO (AcG.kp _ _) (Upd.at (i := 1) rfl) (Upd.at (i := 0) rfl) rfl rfl (k3.mono fun b _ h => h) r3 (fun b hb => .inl (hb ▸ hSb)) (fun b hb => hb.elim .inl fun hb => hb.elim (fun hb => .inl (hCS b hb)) fun hb => .inr (.inl hb))).takeR 1
end Go.Proofs.YtjmkbglnjklbcaaGreat.Am
set_option linter.unusedSimpArgs false
set_option linter.unusedVariables false
namespace Go.Proofs.YtjmkbglnjklbcaaGreat.Am
open Go Go.RowKit
theorem im3 {a c e : Rs} {l : List Rs} (hc : c.mu = true) (he : e.mu = true) (ha : a.mu = false) : ∀ r ∈ [a, c, e], r.mu = false → ∃ r0 ∈ a :: l, r0.mu = false ∧ r0.S = r.S := by
 intro r hr hm
 simp only [List.mem_cons, List.not_mem_nil, or_false] at hr
 rcases hr with rfl | rfl | rfl
 ·exact ⟨_, .head _, ha, rfl⟩
 ·rw [hc] at hm; cases hm
 ·rw [he] at hm; cases hm
def okA (k n : Int) (s : ByteArray) (m : Nat) : Bool := isA k n s m (⟨#[111, 107]⟩ : ByteArray)
def EndsR (base F f pb : Nat) (p : Fp) (t : Tm) (k0 m0 : Int) (s0 : ByteArray) (ta : Option Addr) (tl : Nat) (ok : Bool) (G n : Nat) : Prop := ∀ (P : Pl) (pid : Int) (a b g : Option Addr) (S So V : Fp) (h0 h : AH), P.acs.length ≤ n → PE P → Hs base V h0 h [(pb, 36, plV a P.code.length b P.acs.length P.next g P.out.length)] [rIn p fun y => TmR y p f t (termV k0 m0 s0 ta tl), rAs base F S P.acs b, rSs base f So P.out g] →
 Wp (run (Et base) G [.pointer (at0 pb), .int .i64 pid, .agg (termV k0 m0 s0 ta tl).toArray] h) fun r => r.1 = .tuple #[] ∧ ∃ b' g' S' So', Hs base V h0 r.2 [(pb, 36, plV a P.code.length b' (endP ok t n pid P).acs.length P.next g' (endP ok t n pid P).out.length)] [rIn p fun y => TmR y p f t (termV k0 m0 s0 ta tl), rAs base F S' (endP ok t n pid P).acs b', rSs base f So' (endP ok t n pid P).out g']
theorem l11Ends_loop {base F f pb tb n : Nat} {p : Fp} {t : Tm} {k0 m0 : Int} {s0 : ByteArray} {ta : Option Addr} {tl : Nat} (hB : TmB f t) (ih : EndsR base F f pb p t k0 m0 s0 ta tl (okA k0 m0 s0 tl) 37 n) {a : Option Addr} {ls : List Int} {lk : Option Addr} {C : Fp} {A : AH → Prop} {V : Fp} {h0 : AH} (hA : ∀ h, A h → Sl h lk (iv .i64 ls)) (hls : ls.length ≤ 1048576) : ∀ (m i : Nat) (h : AH) (b g : Option Addr) (S So : Fp) (P : Pl), i + m = ls.length → P.acs.length ≤ n → PE P → Hs base V h0 h [(pb, 36, plV a P.code.length b P.acs.length P.next g P.out.length), (tb, 42, termV k0 m0 s0 ta tl)] [rIn p fun y => TmR y p f t (termV k0 m0 s0 ta tl), rAs base F S P.acs b, rSs base f So P.out g, ⟨C, true, A⟩] →
  Wp (loopL (B37_1 base) [some (.pointer (at0 pb)), some (.pointer (at0 tb)), some (.slice lk ls.length ls.length), some (.int .i64 (i : Int))] h) fun o => o.1 = 4 ∧ ∃ b' g' S' So', Hs base V h0 o.2.2 [(pb, 36, plV a P.code.length b' (if okA k0 m0 s0 tl = true then P else (ls.drop i).foldl (fun Q m => endP (okA k0 m0 s0 tl) t n m Q) P).acs.length P.next g' (if okA k0 m0 s0 tl = true then P else (ls.drop i).foldl (fun Q m => endP (okA k0 m0 s0 tl) t n m Q) P).out.length), (tb, 42, termV k0 m0 s0 ta tl)] [rIn p fun y => TmR y p f t (termV k0 m0 s0 ta tl), rAs base F S' (if okA k0 m0 s0 tl = true then P else (ls.drop i).foldl (fun Q m => endP (okA k0 m0 s0 tl) t n m Q) P).acs b', rSs base f So' (if okA k0 m0 s0 tl = true then P else (ls.drop i).foldl (fun Q m => endP (okA k0 m0 s0 tl) t n m Q) P).out g', ⟨C, true, A⟩] := by
 intro m
 induction m with
 | zero =>
  intro i h b g S So P hi hn hP d
  have hi' : i = ls.length := by omega
  subst hi'
  have e0 : (if okA k0 m0 s0 tl = true then P else (ls.drop ls.length).foldl (fun Q m => endP (okA k0 m0 s0 tl) t n m Q) P) = P := by
   rw [List.drop_of_length_le (Nat.le_refl _)]; split <;> rfl
  rw [e0]
  suffices w : Wp (B37_1 base [some (.pointer (at0 pb)), some (.pointer (at0 tb)), some (.slice lk ls.length ls.length), some (.int .i64 (ls.length : Int))] h) fun o => o = (4, [], h) by
   obtain ⟨o, e, rfl⟩ := w
   exact ⟨_, loop_off (by decide) e, rfl, b, g, S, So, d⟩
  rw [B37_1_eq]
  ((try simp only [n1, n2, n3, n4, n5, n6] at d); (with_reducible repeat first | refine W.a1 d ?_ | refine W.a2 ?_ | refine W.a3 ?_ | refine W.bo ?_ | refine W.a5 d fun hw d lw kw => ?_ | refine W.a6 d ?_ | refine W.a7 ?_ | refine W.a8 ?_))
  refine W.join (W.ifF (by simp) (W.il ?_))
  ((try simp only [n1, n2, n3, n4, n5, n6] at d); (with_reducible repeat first | refine W.a1 d ?_ | refine W.a2 ?_ | refine W.a3 ?_ | refine W.bo ?_ | refine W.a5 d fun hw d lw kw => ?_ | refine W.a6 d ?_ | refine W.a7 ?_ | refine W.a8 ?_))
  exact W.ifF (by decide) (W.ret rfl)
 | succ m ihm =>
  intro i h b g S So P hi hn hP d
  have hlt : i < ls.length := by omega
  suffices w : Wp (B37_1 base [some (.pointer (at0 pb)), some (.pointer (at0 tb)), some (.slice lk ls.length ls.length), some (.int .i64 (i : Int))] h) fun o => if okA k0 m0 s0 tl = true then (∃ h', o = (4, [], h') ∧ Hs base V h0 h' [(pb, 36, plV a P.code.length b P.acs.length P.next g P.out.length), (tb, 42, termV k0 m0 s0 ta tl)] [rIn p fun y => TmR y p f t (termV k0 m0 s0 ta tl), rAs base F S P.acs b, rSs base f So P.out g, ⟨C, true, A⟩]) else o.1 = 0 ∧ o.2.1 = [some (.pointer (at0 pb)), some (.pointer (at0 tb)), some (.slice lk ls.length ls.length), some (.int .i64 ((i + 1 : Nat) : Int))] ∧ ∃ b' g' S' So', Hs base V h0 o.2.2 [(pb, 36, plV a P.code.length b' (endP (okA k0 m0 s0 tl) t n ls[i] P).acs.length P.next g' (endP (okA k0 m0 s0 tl) t n ls[i] P).out.length), (tb, 42, termV k0 m0 s0 ta tl)] [rIn p fun y => TmR y p f t (termV k0 m0 s0 ta tl), rAs base F S' (endP (okA k0 m0 s0 tl) t n ls[i] P).acs b', rSs base f So' (endP (okA k0 m0 s0 tl) t n ls[i] P).out g', ⟨C, true, A⟩] by
   obtain ⟨⟨o1, o2, h'⟩, e, q⟩ := w
   by_cases c : okA k0 m0 s0 tl = true
   ·rw [if_pos c] at q
    obtain ⟨h2, e2, d2⟩ := q
    injection e2 with e3 e4
    injection e4 with e4 e5
    subst e3; subst e4; subst e5
    refine ⟨_, loop_off (by decide) e, rfl, b, g, S, So, ?_⟩
    rw [if_pos c]
    exact d2
   ·rw [if_neg c] at q
    obtain ⟨y1, y2, b', g', S', So', d'⟩ := q
    simp only at y1 y2 d'
    subst y1; subst y2
    obtain ⟨q1, q2⟩ := endP_PE (okA k0 m0 s0 tl) t n ls[i] P hP
    obtain ⟨q3, q4⟩ := endP_code (okA k0 m0 s0 tl) t n ls[i] P
    obtain ⟨o, eo, q⟩ := ihm (i + 1) h' b' g' S' So' (endP (okA k0 m0 s0 tl) t n ls[i] P) (by omega) (by omega) q1 (by rw [q3, q4]; exact d')
    refine ⟨o, loop_on e eo, ?_⟩
    rw [if_neg c] at q ⊢
    rw [q3, q4] at q
    rw [List.drop_eq_getElem_cons hlt, List.foldl_cons]
    exact q
  rw [B37_1_eq]
  ((try simp only [n1, n2, n3, n4, n5, n6] at d); (with_reducible repeat first | refine W.a1 d ?_ | refine W.a2 ?_ | refine W.a3 ?_ | refine W.bo ?_ | refine W.a5 d fun hw d lw kw => ?_ | refine W.a6 d ?_ | refine W.a7 ?_ | refine W.a8 ?_))
  refine W.join (W.ifT (decide_eq_true (by omega)) ?_)
  ((try simp only [n1, n2, n3, n4, n5, n6] at d); (with_reducible repeat first | refine W.a1 d ?_ | refine W.a2 ?_ | refine W.a3 ?_ | refine W.bo ?_ | refine W.a5 d fun hw d lw kw => ?_ | refine W.a6 d ?_ | refine W.a7 ?_ | refine W.a8 ?_))
  obtain ⟨h1, e1, k1⟩ := l9Atom_run (base := base) (h := h) (w := (⟨#[111, 107]⟩ : ByteArray)) d.ge
  have d := d.kN k1
  refine W.bs e1 ?_
  ((try simp only [n1, n2, n3, n4, n5, n6] at d); (with_reducible repeat first | refine W.a1 d ?_ | refine W.a2 ?_ | refine W.a3 ?_ | refine W.bo ?_ | refine W.a5 d fun hw d lw kw => ?_ | refine W.a6 d ?_ | refine W.a7 ?_ | refine W.a8 ?_))
  obtain ⟨h2, e2, k2⟩ := specSameAtom_run (base := base) (h := h1) (k := k0) (n := m0) (s := s0) (a := ta) (m := tl) (w := (⟨#[111, 107]⟩ : ByteArray)) d.ge
  have d := d.kN k2
  refine W.bs e2 ?_
  ((try simp only [n1, n2, n3, n4, n5, n6] at d); (with_reducible repeat first | refine W.a1 d ?_ | refine W.a2 ?_ | refine W.a3 ?_ | refine W.bo ?_ | refine W.a5 d fun hw d lw kw => ?_ | refine W.a6 d ?_ | refine W.a7 ?_ | refine W.a8 ?_))
  refine W.il ?_
  ((try simp only [n1, n2, n3, n4, n5, n6] at d); (with_reducible repeat first | refine W.a1 d ?_ | refine W.a2 ?_ | refine W.a3 ?_ | refine W.bo ?_ | refine W.a5 d fun hw d lw kw => ?_ | refine W.a6 d ?_ | refine W.a7 ?_ | refine W.a8 ?_))
  show Wp (if (!okA k0 m0 s0 tl) = true then _ else _) _
  by_cases c : okA k0 m0 s0 tl = true
  ·refine W.ifF (by rw [c]; decide) (W.ret ?_)
   rw [if_pos c]
   exact ⟨_, rfl, d⟩
  ·refine W.ifT (by simpa using c) (W.ifT ⟨by omega, by omega⟩ ?_)
   rw [Int.toNat_natCast]
   refine W.ri (hA _ (d.rs (i := 3) rfl)) hlt ?_
   ((try simp only [n1, n2, n3, n4, n5, n6] at d); (with_reducible repeat first | refine W.a1 d ?_ | refine W.a2 ?_ | refine W.a3 ?_ | refine W.bo ?_ | refine W.a5 d fun hw d lw kw => ?_ | refine W.a6 d ?_ | refine W.a7 ?_ | refine W.a8 ?_))
   have d1 := Hs.part (D1 := [_]) (R1 := [_, _, _]) d
   refine W.wb (ih P ls[i] a b g S So _ _ _ hn hP d1) ?_
   rintro ⟨u, h3⟩ ⟨y1, b', g', S', So', d3⟩
   simp only at y1 d3
   subst y1
   have d := Hs.back (D1 := [_]) (R1 := [_, _, _]) d d3 (im3 rfl rfl rfl)
   ((try simp only [n1, n2, n3, n4, n5, n6] at d); (with_reducible repeat first | refine W.a1 d ?_ | refine W.a2 ?_ | refine W.a3 ?_ | refine W.bo ?_ | refine W.a5 d fun hw d lw kw => ?_ | refine W.a6 d ?_ | refine W.a7 ?_ | refine W.a8 ?_))
   rw [w64i (n := (i : Int) + 1) (by omega) (by omega)]
   refine W.ret ?_
   rw [if_neg c]
   exact ⟨rfl, rfl, b', g', S', So', d⟩
end Go.Proofs.YtjmkbglnjklbcaaGreat.Am
set_option linter.unusedSimpArgs false
set_option linter.unusedVariables false
namespace Go.Proofs.YtjmkbglnjklbcaaGreat.Am
open Go Go.RowKit
theorem acG_leaf {base F : Nat} : ∀ S h x cs, AcG base F S h x cs → cs.all leaf = true := fun S h x cs y => by
 obtain ⟨ra, rb, rc, rfl⟩ := y.form2
 rfl
theorem Sl.at {h : AH} {a : Option Addr} {vs : List Value} {i : Nat} {v : Value} (x : Sl h a vs) (e : vs[i]? = some v) : ∃ ad, a = some ad ∧ Am.cell h ad.block (ad.off + i) = some v := by
 rcases x with rfl | ⟨ad, k, rfl, e2, e3, e4⟩
 ·simp at e
 ·exact ⟨ad, rfl, by simp [Am.cell, e2, e4 _ _ e]⟩
theorem l11Ends_run {base F f pb : Nat} {p : Fp} {t : Tm} {k0 m0 : Int} {s0 : ByteArray} {ta : Option Addr} {tl : Nat} (hB : TmB f t) : ∀ n, EndsR base F f pb p t k0 m0 s0 ta tl (okA k0 m0 s0 tl) 37 n := by
 intro n
 induction n with
 | zero =>
  intro P pid a b g S So V h0 h hn hP d
  have hz : P.acs = [] := List.eq_nil_of_length_eq_zero (by omega)
  refine W.of (fun r hx => Am.r37 hx) ?_
  ((try simp only [n1, n2, n3, n4, n5, n6] at d); (with_reducible repeat first | refine W.a1 d ?_ | refine W.a2 ?_ | refine W.a3 ?_ | refine W.bo ?_ | refine W.a5 d fun hw d lw kw => ?_ | refine W.a6 d ?_ | refine W.a7 ?_ | refine W.a8 ?_); (refine W.nD d fun h1 d _ kh1 => ?_); (with_reducible repeat first | refine W.a1 d ?_ | refine W.a2 ?_ | refine W.a3 ?_ | refine W.bo ?_ | refine W.a5 d fun hw d lw kw => ?_ | refine W.a6 d ?_ | refine W.a7 ?_ | refine W.a8 ?_))
  obtain ⟨h2, e2, k2⟩ := l11At_run (base := base) (P := P) (v := pid) (a := a) (g := g) (by omega) (RowO.asR (d.rs (i := 1) rfl)) d.ge
  have d := d.kN k2
  refine W.bs e2 ?_
  ((try simp only [n1, n2, n3, n4, n5, n6] at d); (with_reducible repeat first | refine W.a1 d ?_ | refine W.a2 ?_ | refine W.a3 ?_ | refine W.bo ?_ | refine W.a5 d fun hw d lw kw => ?_ | refine W.a6 d ?_ | refine W.a7 ?_ | refine W.a8 ?_))
  refine W.ifT (by rw [hz]; rfl) (W.ret ⟨rfl, b, g, S, So, ?_⟩)
  exact d.tl
 | succ n ih =>
  intro P pid a b g S So V h0 h hn hP d
  obtain ⟨p1, p2, p3⟩ := hP
  refine W.of (fun r hx => Am.r37 hx) ?_
  ((try simp only [n1, n2, n3, n4, n5, n6] at d); (with_reducible repeat first | refine W.a1 d ?_ | refine W.a2 ?_ | refine W.a3 ?_ | refine W.bo ?_ | refine W.a5 d fun hw d lw kw => ?_ | refine W.a6 d ?_ | refine W.a7 ?_ | refine W.a8 ?_); (refine W.nD d fun h1 d _ kh1 => ?_); (with_reducible repeat first | refine W.a1 d ?_ | refine W.a2 ?_ | refine W.a3 ?_ | refine W.bo ?_ | refine W.a5 d fun hw d lw kw => ?_ | refine W.a6 d ?_ | refine W.a7 ?_ | refine W.a8 ?_))
  obtain ⟨h2, e2, k2⟩ := l11At_run (base := base) (P := P) (v := pid) (a := a) (g := g) (by omega) (RowO.asR (d.rs (i := 1) rfl)) d.ge
  have d := d.kN k2
  refine W.bs e2 ?_
  ((try simp only [n1, n2, n3, n4, n5, n6] at d); (with_reducible repeat first | refine W.a1 d ?_ | refine W.a2 ?_ | refine W.a3 ?_ | refine W.bo ?_ | refine W.a5 d fun hw d lw kw => ?_ | refine W.a6 d ?_ | refine W.a7 ?_ | refine W.a8 ?_))
  refine W.ite (fun c => ?_) (fun c => ?_)
  ·refine W.ret ⟨rfl, b, g, S, So, ?_⟩
   rw [endP, if_pos c]
   exact d.tl
  have hlt := atL_lt pid P.acs 0
  have c' : ¬ atL pid 0 P.acs < 0 := by simpa using c
  have hi : (atL pid 0 P.acs).toNat < P.acs.length := by omega
  obtain ⟨q, eq⟩ : ∃ q, (atL pid 0 P.acs).toNat = q := ⟨_, rfl⟩
  have eq' : atL pid 0 P.acs = (q : Int) := by omega
  rw [eq] at hi
  rw [eq'] at c ⊢
  ((try simp only [n1, n2, n3, n4, n5, n6] at d); (with_reducible repeat first | refine W.a1 d ?_ | refine W.a2 ?_ | refine W.a3 ?_ | refine W.bo ?_ | refine W.a5 d fun hw d lw kw => ?_ | refine W.a6 d ?_ | refine W.a7 ?_ | refine W.a8 ?_))
  rw [Int.toNat_natCast]
  have row2 : RowO base 118 5 (AcG base F) S h2 P.acs b := d.rs (i := 1) rfl
  have ok2 : TyOk base h2 b 118 := by obtain ⟨_, _, o, _⟩ := row2; exact TyOk.own o
  obtain ⟨vs, T, er, ev, hsl, hT, hTb, ch⟩ := row2.raws acG_leaf (by decide)
  have hvl := ch.leaf acG_leaf (by decide) ev
  obtain ⟨CC, _, _, c3⟩ := ch
  obtain ⟨ra, rb, rc, ech⟩ := (c3 q _ (List.getElem?_eq_getElem hi)).form2
  have hq5 : q * 5 + 4 < vs.length := by omega
  have e4 : vs[q * 5 + 4]? = some (.slice rc P.acs[q].links.length P.acs[q].links.length) := by
   have : (chunk 5 q vs)[4]? = some (.slice rc P.acs[q].links.length P.acs[q].links.length) := by rw [ech]; rfl
   rw [chunk, List.getElem?_take_of_lt (by decide), List.getElem?_drop] at this
   exact this
  obtain ⟨ad, rfl, g4⟩ := hsl.at e4
  refine W.bs rfl (W.bS g4 ?_)
  ((try simp only [n1, n2, n3, n4, n5, n6] at d); (with_reducible repeat first | refine W.a1 d ?_ | refine W.a2 ?_ | refine W.a3 ?_ | refine W.bo ?_ | refine W.a5 d fun hw d lw kw => ?_ | refine W.a6 d ?_ | refine W.a7 ?_ | refine W.a8 ?_); (refine W.nD d fun h3 d _ kh3 => ?_); (with_reducible repeat first | refine W.a1 d ?_ | refine W.a2 ?_ | refine W.a3 ?_ | refine W.bo ?_ | refine W.a5 d fun hw d lw kw => ?_ | refine W.a6 d ?_ | refine W.a7 ?_ | refine W.a8 ?_))
  have ok3 := ok2.keepN kh3
  have hsl : Sl h3 (some ad) vs := hsl.keepN kh3
  have er : rawAt h3 (some ad) (P.acs.length * 5) = some vs := rawAt_keep kh3 (fun _ _ h => h) er
  have er1 : rawAt h3 (shiftA (some ad) (0 * 5)) ((q - 0) * 5) = some (vs.take (q * 5)) := by
   have := rawAt_part (n := 0) (m := q * 5) hsl hvl (by omega)
   rw [List.drop_zero] at this
   simpa using this
  refine W.ifT ⟨by omega, by omega, by show (q : Int) ≤ (P.acs.length : Int); omega, rfl⟩ ?_
  rw [show Int.toNat 0 = 0 from rfl, er1]
  have hbl : ∀ x, blk (some ad) x → x < h2.length := fun x hx => by obtain ⟨ad', e', rfl⟩ := hx; injection e' with e'; subst e'; exact (ok2 ad rfl).1
  obtain ⟨a4, h4, S4, e4, d, hS4, k4, l4⟩ := Hs.appD (n := 0) (m := q) (sz := 5) (bytes := 88) d (by rfl) (by decide) (rfl : some (vs.take (q * 5)) = some _) (by omega) (by omega) (by simp; omega)
  simp only [Nat.zero_add, List.nil_append, Nat.sub_zero] at e4 d ⊢
  refine W.bs e4 ?_
  have u4 : ∀ b, blk (some ad) b → ¬ b = h2.length := fun b hb => by have := hbl b hb; omega
  have ok4 := ok3.keep k4 u4
  have hsl := hsl.keep k4 fun b hb hu => u4 b hb hu
  have er := rawAt_keep k4 u4 er
  ((try simp only [n1, n2, n3, n4, n5, n6] at d); (with_reducible repeat first | refine W.a1 d ?_ | refine W.a2 ?_ | refine W.a3 ?_ | refine W.bo ?_ | refine W.a5 d fun hw d lw kw => ?_ | refine W.a6 d ?_ | refine W.a7 ?_ | refine W.a8 ?_))
  refine W.gt (ok2.ne (Nat.le_refl _)) (W.gt (ok3.same0 k4 u4) ?_)
  rw [w64i (n := (q : Int) + 1) (by omega) (by omega)]
  refine W.ifT ⟨by omega, by show (q : Int) + 1 ≤ (P.acs.length : Int); omega, Int.le_refl _, ok4.ok _⟩ ?_
  have eq1 : Int.toNat ((q : Int) + 1) = q + 1 := by omega
  have er2 : rawAt h4 (shiftA (some ad) ((q + 1) * 5)) ((P.acs.length - (q + 1)) * 5) = some (vs.drop ((q + 1) * 5)) := by
   have := rawAt_part (n := (q + 1) * 5) (m := (P.acs.length - (q + 1)) * 5) hsl hvl (by omega)
   rw [this, List.take_of_length_le (by simp; omega)]
  simp only [eq1, Int.toNat_natCast]
  rw [er2]
  obtain ⟨a5, h5, e5, d, q5, k5⟩ := d.appO (i := 3) (w := 5) (n := q) (m := P.acs.length - (q + 1)) (bytes := 88) rfl hS4 (rfl : some (vs.drop ((q + 1) * 5)) = some _) (by decide) (by simp; omega) (by simp; omega) (by omega) (by omega)
  refine W.bs e5 ?_
  have u5 : ∀ b, blk (some ad) b → ¬ S4 b := fun b hb hs => by have := hbl b hb; have := l4 b hs; omega
  have er := rawAt_keep k5 u5 er
  obtain ⟨C, S5, d, hC, hS5⟩ := d.cut (AcG.kp _ _) (i := 1) (j := 3) (q := q) rfl hi acG_leaf (by decide) er (by decide) rfl (fun b h => h)
  ((try simp only [n1, n2, n3, n4, n5, n6] at d); (with_reducible repeat first | refine W.a1 d ?_ | refine W.a2 ?_ | refine W.a3 ?_ | refine W.bo ?_ | refine W.a5 d fun hw d lw kw => ?_ | refine W.a6 d ?_ | refine W.a7 ?_ | refine W.a8 ?_))
  have ecl : q + (P.acs.length - (q + 1)) = (cutA q P.acs).length := by have := cutA_len hi; omega
  have hcut := cutA_len hi
  have d := d.front (.there .here)
  simp only [ecl] at d ⊢
  have d : Hs base V h0 hw [(pb, 36, plV a P.code.length a5 (cutA q P.acs).length P.next g P.out.length), (h.length, 42, termV k0 m0 s0 ta tl)] [rIn p fun y => TmR y p f t (termV k0 m0 s0 ta tl), rAs base F S5 (cutA q P.acs) a5, rSs base f So P.out g, ⟨C, true, fun x => AcG base F C x P.acs[q] (chunk 5 q vs)⟩] := d
  have d := d.frontR (Del.at (i := 1) rfl)
  have d1 := Hs.part (D1 := [_]) (R1 := [_]) d
  have w1 := l11Unl_loop (base := base) (F := F) (pb := pb) (tb := h.length) (P := ⟨P.code, cutA q P.acs, P.next, P.out⟩) (a := a) (b := a5) (g := g) (lk := rc) (lm := P.acs[q].links.length) (v := pid) (by show (cutA q P.acs).length ≤ _; omega) (fun A hA => p3 A (cutA_mem hA)) (cutA q P.acs).length 0 hw S5 (by show 0 + (cutA q P.acs).length = (cutA q P.acs).length; omega) (by simpa using d1)
  refine W.wb w1 ?_
  rintro ⟨o1, o2, h6⟩ ⟨y1, y2, S6, d6⟩
  simp only at y1 y2 d6
  subst y1; subst y2
  have d := Hs.back (D1 := [_]) (R1 := [_]) d d6 (fun r hr hm => by simp only [List.mem_cons, List.not_mem_nil, or_false] at hr; subst hr; cases hm)
  have d := d.frontR (Del.at (i := 1) rfl)
  refine W.ifT rfl ?_
  ((try simp only [n1, n2, n3, n4, n5, n6] at d); (with_reducible repeat first | refine W.a1 d ?_ | refine W.a2 ?_ | refine W.a3 ?_ | refine W.bo ?_ | refine W.a5 d fun hw d lw kw => ?_ | refine W.a6 d ?_ | refine W.a7 ?_ | refine W.a8 ?_))
  obtain ⟨a7, h7, e7, r7, k7, n7⟩ := specSay_run (base := base) (f := f) h6 So P.out g 3 pid p t k0 m0 s0 ta tl (d.rs (i := 2) rfl) p2 (d.rs (i := 0) rfl) hB (d.rlt (i := 2) rfl) (d.rlt (i := 0) rfl) d.ge
  have rowg : RowO base 137 6 (SdD f) So h6 P.out g := d.rs (i := 2) rfl
  have d := d.updO (SdD.kp _) (Upd.at (i := 2) rfl) rfl k7 r7 (fun b hb => .inl (rowg.blkS b hb)) (fun b hb => hb)
  refine W.bs e7 ?_
  ((try simp only [n1, n2, n3, n4, n5, n6] at d); (with_reducible repeat first | refine W.a1 d ?_ | refine W.a2 ?_ | refine W.a3 ?_ | refine W.bo ?_ | refine W.a5 d fun hw d lw kw => ?_ | refine W.a6 d ?_ | refine W.a7 ?_ | refine W.a8 ?_))
  have em : ((cutA q P.acs).map (unlk pid)).length = (cutA q P.acs).length := List.length_map _
  have d : Hs base V h0 hw [(pb, 36, plV a P.code.length a5 (cutA q P.acs).length P.next a7 (sayL P.out 3 pid t).length), (h.length, 42, termV k0 m0 s0 ta tl)] [rIn p fun y => TmR y p f t (termV k0 m0 s0 ta tl), rAs base F S6 ((cutA q P.acs).map (unlk pid)) a5, rSs base f (fun b => So b ∨ (h6.length ≤ b ∧ b < h7.length)) (sayL P.out 3 pid t) a7, ⟨C, true, fun x => AcG base F C x P.acs[q] (chunk 5 q vs)⟩] := d
  rw [← em] at d
  have hA : ∀ y, AcG base F C y P.acs[q] (chunk 5 q vs) → Sl y rc (iv .i64 P.acs[q].links) := fun y x => by
   obtain ⟨_, _, rc', _, _, S3, ecs, _, _, q3, _⟩ := x
   rw [ech] at ecs
   injection ecs with _ ecs
   injection ecs with _ ecs
   injection ecs with _ ecs
   injection ecs with _ ecs
   injection ecs with ecs _
   injection ecs with ecs _ _
   subst ecs
   exact q3.sl
  have hPE : PE ⟨P.code, (cutA q P.acs).map (unlk pid), P.next, sayL P.out 3 pid t⟩ := by
   refine ⟨by show ((cutA q P.acs).map (unlk pid)).length ≤ _; omega, sayL_le p2, fun A hA => ?_⟩
   obtain ⟨B, hB, rfl⟩ := List.mem_map.1 hA
   exact Nat.le_trans dropI_len (p3 B (cutA_mem hB))
  refine W.wb (l11Ends_loop (base := base) hB ih (A := fun x => AcG base F C x P.acs[q] (chunk 5 q vs)) hA (p3 _ (List.getElem_mem hi)) P.acs[q].links.length 0 hw a5 a7 S6 _ ⟨P.code, (cutA q P.acs).map (unlk pid), P.next, sayL P.out 3 pid t⟩ (by omega) (by show ((cutA q P.acs).map (unlk pid)).length ≤ _; omega) hPE d) ?_
  rintro ⟨o1, o2, h8⟩ ⟨y1, b8, g8, S8, So8, d8⟩
  simp only at y1 d8
  subst y1
  refine W.ifT rfl (W.ret ⟨rfl, b8, g8, S8, So8, ?_⟩)
  have ee : endP (okA k0 m0 s0 tl) t (n + 1) pid P = if okA k0 m0 s0 tl = true then ⟨P.code, (cutA q P.acs).map (unlk pid), P.next, sayL P.out 3 pid t⟩ else (P.acs[q].links.drop 0).foldl (fun Q m => endP (okA k0 m0 s0 tl) t n m Q) ⟨P.code, (cutA q P.acs).map (unlk pid), P.next, sayL P.out 3 pid t⟩ := by
   rw [endP, eq', if_neg c, Int.toNat_natCast, aD hi, List.drop_zero]
  rw [ee]
  have d9 := (d8.front (.there .here)).tl
  exact d9.takeR 3
end Go.Proofs.YtjmkbglnjklbcaaGreat.Am
set_option linter.unusedSimpArgs false
set_option linter.unusedVariables false
namespace Go.Proofs.YtjmkbglnjklbcaaGreat.Am
open Go Go.RowKit
theorem withoutInt_loop {base : Nat} {v : Int} {zs : List Int} {a : Option Addr} (hl : zs.length ≤ 1048576 * 4) {h0 : AH} (hs : Sl h0 a (iv .i64 zs)) : ∀ (n i : Nat) (h : AH) (ao : Option Addr) (S : Fp), i + n = zs.length → Hs base NoB h0 h [] [⟨S, true, fun y => Own base 3 y ao (iv .i64 (dropI v (zs.take i)))⟩] → (∀ b, blk ao b → S b) →
  Wp (loopL (B115_0 base) [some (.int .i64 v), some (.slice ao (dropI v (zs.take i)).length (dropI v (zs.take i)).length), some (.slice a zs.length zs.length), some (.int .i64 (zs.length : Int)), some (.int .i64 (i : Int))] h) fun o => ∃ a' S', o.1 = 2 ∧ o.2.1 = [some (.slice a' (dropI v zs).length (dropI v zs).length)] ∧ Hs base NoB h0 o.2.2 [] [⟨S', true, fun y => Own base 3 y a' (iv .i64 (dropI v zs))⟩] ∧ (∀ b, blk a' b → S' b) := by
 intro n
 induction n with
 | zero =>
  intro i h ao S hi d hS
  have hi' : i = zs.length := by omega
  subst hi'
  rw [List.take_of_length_le (Nat.le_refl _)] at d ⊢
  refine ⟨_, loop_off (by decide) (s' := [some (.slice ao (dropI v zs).length (dropI v zs).length)]) (h' := h) (e := 2) ?_, ao, S, rfl, rfl, d, hS⟩
  rw [B115_0_eq]
  exact Am.ifF (by simp) rfl
 | succ n ih =>
  intro i h ao S hi d hS
  have hlt : i < zs.length := by omega
  have hsn : dropI v (zs.take (i + 1)) = if (zs[i] != v) = true then dropI v (zs.take i) ++ [zs[i]] else dropI v (zs.take i) := by rw [take_snoc hlt, dropI_snoc]
  suffices w : Wp (B115_0 base [some (.int .i64 v), some (.slice ao (dropI v (zs.take i)).length (dropI v (zs.take i)).length), some (.slice a zs.length zs.length), some (.int .i64 (zs.length : Int)), some (.int .i64 (i : Int))] h) fun o => ∃ a' S', o.1 = 0 ∧ o.2.1 = [some (.int .i64 v), some (.slice a' (dropI v (zs.take (i + 1))).length (dropI v (zs.take (i + 1))).length), some (.slice a zs.length zs.length), some (.int .i64 (zs.length : Int)), some (.int .i64 ((i + 1 : Nat) : Int))] ∧ Hs base NoB h0 o.2.2 [] [⟨S', true, fun y => Own base 3 y a' (iv .i64 (dropI v (zs.take (i + 1))))⟩] ∧ (∀ b, blk a' b → S' b) by
   obtain ⟨⟨o1, o2, h'⟩, e, a', S', y1, y2, d', hS'⟩ := w
   simp only at y1 y2 d'
   subst y1; subst y2
   obtain ⟨o, eo, q⟩ := ih (i + 1) h' a' S' (by omega) d' hS'
   exact ⟨o, loop_on e eo, q⟩
  have hlen : (dropI v (zs.take i)).length ≤ zs.length := Nat.le_trans dropI_len (by simp; omega)
  rw [B115_0_eq]
  refine W.ifT (decide_eq_true (by omega)) (W.ifT ⟨by omega, by omega⟩ ?_)
  rw [Int.toNat_natCast]
  refine W.ri (hs.keepN d.kb) hlt (W.ite (fun c => ?_) (fun c => ?_))
  ·((try simp only [n1, n2, n3, n4, n5, n6] at d); (with_reducible repeat first | refine W.a1 d ?_ | refine W.a2 ?_ | refine W.a3 ?_ | refine W.bo ?_ | refine W.a5 d fun hw d lw kw => ?_ | refine W.a6 d ?_ | refine W.a7 ?_ | refine W.a8 ?_); (refine W.nD d fun h1 d _ kh1 => ?_); (with_reducible repeat first | refine W.a1 d ?_ | refine W.a2 ?_ | refine W.a3 ?_ | refine W.bo ?_ | refine W.a5 d fun hw d lw kw => ?_ | refine W.a6 d ?_ | refine W.a7 ?_ | refine W.a8 ?_))
   obtain ⟨a2, h2, e2, d, q2, k2, _⟩ := d.app1O (w := 1) (i := 0) (n := (dropI v (zs.take i)).length) (bytes := 8) rfl hS (.head _) rfl (by decide) (by simp) rfl (by omega) (by omega)
   refine W.bs e2 ?_
   ((try simp only [n1, n2, n3, n4, n5, n6] at d); (with_reducible repeat first | refine W.a1 d ?_ | refine W.a2 ?_ | refine W.a3 ?_ | refine W.bo ?_ | refine W.a5 d fun hw d lw kw => ?_ | refine W.a6 d ?_ | refine W.a7 ?_ | refine W.a8 ?_))
   rw [w64i (n := (i : Int) + 1) (by omega) (by omega)]
   rw [hsn, if_pos c]
   refine W.ret ⟨a2, _, rfl, by simp, ?_, fun _ h => h⟩
   have := d.tl
   rw [show [vI zs[i]] = iv .i64 [zs[i]] from rfl, iv_append] at this
   exact this
  ·rw [w64i (n := (i : Int) + 1) (by omega) (by omega)]
   rw [hsn, if_neg c]
   exact W.ret ⟨ao, S, rfl, rfl, d, hS⟩
theorem withoutInt_run {base : Nat} {v : Int} {zs : List Int} {a : Option Addr} {h : AH} (hl : zs.length ≤ 1048576 * 4) (hs : Sl h a (iv .i64 zs)) (hb : base ≤ h.length) :
  ∃ a' h', run (Et base) 115 [.slice a zs.length zs.length, .int .i64 v] h = some (.slice a' (dropI v zs).length (dropI v zs).length, h') ∧ Own base 3 h' a' (iv .i64 (dropI v zs)) ∧ KB NoB h h' ∧ (∀ b, blk a' b → h.length ≤ b) := by
 suffices w : Wp (run (Et base) 115 [.slice a zs.length zs.length, .int .i64 v] h) fun o => ∃ a', o.1 = .slice a' (dropI v zs).length (dropI v zs).length ∧ Own base 3 o.2 a' (iv .i64 (dropI v zs)) ∧ KB NoB h o.2 ∧ (∀ b, blk a' b → h.length ≤ b) by
  obtain ⟨⟨u, h'⟩, e, a', rfl, q⟩ := w
  exact ⟨a', h', e, q⟩
 have d := Hs.start hb
 refine W.of (fun r hx => Am.r115 hx) ?_
 have d := d.call (KB.refl NoB _) (fun _ => False) (fun y => Own base 3 y none (iv .i64 (dropI v (zs.take 0)))) (.inl ⟨rfl, rfl⟩) (fun U y y' k hs x => Own.keep x k fun b hb => by obtain ⟨_, e, _⟩ := hb; cases e) (fun _ h => h.elim)
 refine W.wb (withoutInt_loop (base := base) (v := v) hl hs zs.length 0 h none _ (by omega) d fun b hb => by obtain ⟨_, e, _⟩ := hb; cases e) ?_
 rintro ⟨o1, o2, h2⟩ ⟨a', S', y1, y2, d, hS⟩
 simp only at y1 y2 d
 subst y1; subst y2
 refine W.ifT rfl ?_
 ((try simp only [n1, n2, n3, n4, n5, n6] at d); (with_reducible repeat first | refine W.a1 d ?_ | refine W.a2 ?_ | refine W.a3 ?_ | refine W.bo ?_ | refine W.a5 d fun hw d lw kw => ?_ | refine W.a6 d ?_ | refine W.a7 ?_ | refine W.a8 ?_))
 exact W.ret ⟨a', rfl, d.rs (i := 0) rfl, d.kb, fun b hb => (d.rfr (i := 0) rfl rfl b (hS b hb)).resolve_left fun h => h⟩
def okI (k : Int) (s : ByteArray) : Bool := (k == 2) && (s.toList == (⟨#[111, 107]⟩ : ByteArray).toList)
theorem isOk_run {base : Nat} {h : AH} {k n : Int} {s : ByteArray} {a : Option Addr} {m : Nat} (hb : base ≤ h.length) :
  ∃ h', run (Et base) 117 [.agg (termV k n s a m).toArray] h = some (.bool (okI k s), h') ∧ KB NoB h h' := by
 suffices w : Wp (run (Et base) 117 [.agg (termV k n s a m).toArray] h) fun o => o.1 = .bool (okI k s) ∧ KB NoB h o.2 by
  obtain ⟨⟨u, h'⟩, e, rfl, q⟩ := w
  exact ⟨h', e, q⟩
 have d := Hs.start hb
 refine W.of (fun r hx => Am.r117 hx) ?_
 ((try simp only [n1, n2, n3, n4, n5, n6] at d); (with_reducible repeat first | refine W.a1 d ?_ | refine W.a2 ?_ | refine W.a3 ?_ | refine W.bo ?_ | refine W.a5 d fun hw d lw kw => ?_ | refine W.a6 d ?_ | refine W.a7 ?_ | refine W.a8 ?_); (refine W.nD d fun h1 d _ kh1 => ?_); (with_reducible repeat first | refine W.a1 d ?_ | refine W.a2 ?_ | refine W.a3 ?_ | refine W.bo ?_ | refine W.a5 d fun hw d lw kw => ?_ | refine W.a6 d ?_ | refine W.a7 ?_ | refine W.a8 ?_))
 unfold okI
 refine W.ite (fun c => ?_) (fun c => ?_)
 ·((try simp only [n1, n2, n3, n4, n5, n6] at d); (with_reducible repeat first | refine W.a1 d ?_ | refine W.a2 ?_ | refine W.a3 ?_ | refine W.bo ?_ | refine W.a5 d fun hw d lw kw => ?_ | refine W.a6 d ?_ | refine W.a7 ?_ | refine W.a8 ?_))
  rw [c]
  exact W.ret ⟨rfl, d.kb⟩
 ·have : (k == 2) = false := by simpa using c
  rw [this]
  exact W.ret ⟨rfl, d.kb⟩
theorem implUnl_loop {base F pb tb : Nat} {P : Pl} {a b g lk : Option Addr} {lm : Nat} {v : Int} (hl : P.acs.length ≤ 1048576) (hlk : ∀ A ∈ P.acs, A.links.length ≤ 1048576) {V : Fp} {h0 : AH} : ∀ (n i : Nat) (h : AH) (S : Fp), i + n = P.acs.length → Hs base V h0 h [(pb, 36, plV a P.code.length b P.acs.length P.next g P.out.length)] [rAs base F S ((P.acs.take i).map (unlk v) ++ P.acs.drop i) b] →
  Wp (loopL (B46_0 base) [some (.pointer (at0 pb)), some (.int .i64 v), some (.pointer (at0 tb)), some (.slice lk lm lm), some (.int .i64 (P.acs.length : Int)), some (.int .i64 (i : Int))] h) fun o => o.1 = 2 ∧ o.2.1 = [some (.pointer (at0 pb)), some (.int .i64 v), some (.pointer (at0 tb)), some (.slice lk lm lm)] ∧ ∃ S', Hs base V h0 o.2.2 [(pb, 36, plV a P.code.length b P.acs.length P.next g P.out.length)] [rAs base F S' (P.acs.map (unlk v)) b] := by
 intro n
 induction n with
 | zero =>
  intro i h S hi d
  have hi' : i = P.acs.length := by omega
  subst hi'
  rw [List.take_of_length_le (Nat.le_refl _), List.drop_of_length_le (Nat.le_refl _), List.append_nil] at d
  suffices w : Wp (B46_0 base [some (.pointer (at0 pb)), some (.int .i64 v), some (.pointer (at0 tb)), some (.slice lk lm lm), some (.int .i64 (P.acs.length : Int)), some (.int .i64 (P.acs.length : Int))] h) fun o => o = (2, [some (.pointer (at0 pb)), some (.int .i64 v), some (.pointer (at0 tb)), some (.slice lk lm lm)], h) by
   obtain ⟨o, e, rfl⟩ := w
   exact ⟨_, loop_off (by decide) e, rfl, rfl, S, d⟩
  rw [B46_0_eq]
  ((try simp only [n1, n2, n3, n4, n5, n6] at d); (with_reducible repeat first | refine W.a1 d ?_ | refine W.a2 ?_ | refine W.a3 ?_ | refine W.bo ?_ | refine W.a5 d fun hw d lw kw => ?_ | refine W.a6 d ?_ | refine W.a7 ?_ | refine W.a8 ?_))
  exact W.ifF (by simp) (W.ret rfl)
 | succ n ih =>
  intro i h S hi d
  have hlt : i < P.acs.length := by omega
  have hlt2 : i < ((P.acs.take i).map (unlk v) ++ P.acs.drop i).length := by simp; omega
  suffices w : Wp (B46_0 base [some (.pointer (at0 pb)), some (.int .i64 v), some (.pointer (at0 tb)), some (.slice lk lm lm), some (.int .i64 (P.acs.length : Int)), some (.int .i64 (i : Int))] h) fun o => o.1 = 0 ∧ o.2.1 = [some (.pointer (at0 pb)), some (.int .i64 v), some (.pointer (at0 tb)), some (.slice lk lm lm), some (.int .i64 (P.acs.length : Int)), some (.int .i64 ((i + 1 : Nat) : Int))] ∧ ∃ S', Hs base V h0 o.2.2 [(pb, 36, plV a P.code.length b P.acs.length P.next g P.out.length)] [rAs base F S' ((P.acs.take (i + 1)).map (unlk v) ++ P.acs.drop (i + 1)) b] by
   obtain ⟨⟨o1, o2, h'⟩, e, y1, y2, S', d'⟩ := w
   simp only at y1 y2 d'
   subst y1; subst y2
   obtain ⟨o, eo, q⟩ := ih (i + 1) h' S' (by omega) d'
   exact ⟨o, loop_on e eo, q⟩
  have hSl := d.rlt (i := 0) rfl
  have row : RowO base 118 5 (AcG base F) S h _ b := d.rs (i := 0) rfl
  obtain ⟨C, csA, ad, hA, hcl, rfl, cells, hCS, hSb, hCb, mod⟩ := row.mod (AcG.kp _ _) (by decide) hlt2 hSl
  rw [map_get hlt] at hA
  have hA0 := hA
  obtain ⟨ra, rb, rc, rfl⟩ := hA.form2
  obtain ⟨_, _, rc', _, _, S3, ecs, _, _, q3, qg, _, _, t3, _⟩ := hA
  injection ecs with _ ecs
  injection ecs with _ ecs
  injection ecs with _ ecs
  injection ecs with _ ecs
  injection ecs with ecs _
  injection ecs with ecs _ _
  subst ecs
  rw [B46_0_eq]
  ((try simp only [n1, n2, n3, n4, n5, n6] at d); (with_reducible repeat first | refine W.a1 d ?_ | refine W.a2 ?_ | refine W.a3 ?_ | refine W.bo ?_ | refine W.a5 d fun hw d lw kw => ?_ | refine W.a6 d ?_ | refine W.a7 ?_ | refine W.a8 ?_))
  refine W.ifT (decide_eq_true (by show (i : Int) < (P.acs.length : Int); omega)) ?_
  ((try simp only [n1, n2, n3, n4, n5, n6] at d); (with_reducible repeat first | refine W.a1 d ?_ | refine W.a2 ?_ | refine W.a3 ?_ | refine W.bo ?_ | refine W.a5 d fun hw d lw kw => ?_ | refine W.a6 d ?_ | refine W.a7 ?_ | refine W.a8 ?_))
  rw [Int.toNat_natCast]
  refine W.bS (cells 4 _ rfl) ?_
  have hlk' := hlk _ (List.getElem_mem hlt)
  obtain ⟨a2, h2, e2, o2, k2, f2⟩ := withoutInt_run (base := base) (v := v) (zs := P.acs[i].links) (by omega) q3.sl d.ge
  have d := d.call k2 (blk a2) (fun y => Own base 3 y a2 (iv .i64 (dropI v P.acs[i].links))) o2 (fun U y y' k hs x => Own.keep x k hs) (fun b hb => ⟨f2 b hb, (o2.lt hb).2⟩)
  refine W.bs e2 ?_
  ((try simp only [n1, n2, n3, n4, n5, n6] at d); (with_reducible repeat first | refine W.a1 d ?_ | refine W.a2 ?_ | refine W.a3 ?_ | refine W.bo ?_ | refine W.a5 d fun hw d lw kw => ?_ | refine W.a6 d ?_ | refine W.a7 ?_ | refine W.a8 ?_))
  obtain ⟨h3, e3, r3, k3, z3⟩ := mod NoB (fun b => C b ∨ blk a2 b) h2 _ [.slice a2 (dropI v P.acs[i].links).length (dropI v P.acs[i].links).length] 4 (unlk v P.acs[i]) k2 (fun b h => (h : False).elim) (Nat.le_refl 5) (by simp) rfl (fun h4 k4 => AcG.setLinks hA0 (KB.trans (T := (· = ad.block)) k2 k4 (fun _ _ h => (h : False).elim) fun _ _ h => h) (fun b hb e => hCb (e ▸ hb)) ((d.rs (i := 1) rfl : Own base 3 h2 a2 _).keep k4 fun b hb e => by have := f2 b hb; have := hSl _ hSb; omega) (fun b hb hc => by have := f2 b hb; have := hSl _ (hCS b hc); omega)) (fun b hb hs => hb.resolve_right fun hc => by have := f2 b hc; have := hSl _ hs; omega)
  refine W.bs e3 ?_
  ((try simp only [n1, n2, n3, n4, n5, n6] at d); (with_reducible repeat first | refine W.a1 d ?_ | refine W.a2 ?_ | refine W.a3 ?_ | refine W.bo ?_ | refine W.a5 d fun hw d lw kw => ?_ | refine W.a6 d ?_ | refine W.a7 ?_ | refine W.a8 ?_))
  rw [w64i (n := (i : Int) + 1) (by omega) (by omega)]
  refine W.ret ⟨rfl, rfl, fun b => S b ∨ C b ∨ blk a2 b, ?_⟩
  rw [map_step hlt] at r3
  exact (d.joinO (AcG.kp _ _) (Upd.at (i := 1) rfl) (Upd.at (i := 0) rfl) rfl rfl (k3.mono fun b _ h => h) r3 (fun b hb => .inl (hb ▸ hSb)) (fun b hb => hb.elim .inl fun hb => hb.elim (fun hb => .inl (hCS b hb)) fun hb => .inr (.inl hb))).takeR 1
end Go.Proofs.YtjmkbglnjklbcaaGreat.Am
set_option linter.unusedSimpArgs false
set_option linter.unusedVariables false
namespace Go.Proofs.YtjmkbglnjklbcaaGreat.Am
open Go Go.RowKit
theorem implEnd_loop {base F f pb tb n : Nat} {p : Fp} {t : Tm} {k0 m0 : Int} {s0 : ByteArray} {ta : Option Addr} {tl : Nat} (ih : EndsR base F f pb p t k0 m0 s0 ta tl false 46 n) {a : Option Addr} {ls : List Int} {lk : Option Addr} {C : Fp} {A : AH → Prop} {V : Fp} {h0 : AH} (hA : ∀ h, A h → Sl h lk (iv .i64 ls)) (hls : ls.length ≤ 1048576) : ∀ (m i : Nat) (h : AH) (b g : Option Addr) (S So : Fp) (P : Pl), i + m = ls.length → P.acs.length ≤ n → PE P → Hs base V h0 h [(pb, 36, plV a P.code.length b P.acs.length P.next g P.out.length), (tb, 42, termV k0 m0 s0 ta tl)] [rIn p fun y => TmR y p f t (termV k0 m0 s0 ta tl), rAs base F S P.acs b, rSs base f So P.out g, ⟨C, true, A⟩] →
  Wp (loopL (B46_1 base) [some (.pointer (at0 pb)), some (.pointer (at0 tb)), some (.slice lk ls.length ls.length), some (.int .i64 (ls.length : Int)), some (.int .i64 (i : Int))] h) fun o => o.1 = 4 ∧ ∃ b' g' S' So', Hs base V h0 o.2.2 [(pb, 36, plV a P.code.length b' ((ls.drop i).foldl (fun Q m => endP false t n m Q) P).acs.length P.next g' ((ls.drop i).foldl (fun Q m => endP false t n m Q) P).out.length), (tb, 42, termV k0 m0 s0 ta tl)] [rIn p fun y => TmR y p f t (termV k0 m0 s0 ta tl), rAs base F S' ((ls.drop i).foldl (fun Q m => endP false t n m Q) P).acs b', rSs base f So' ((ls.drop i).foldl (fun Q m => endP false t n m Q) P).out g', ⟨C, true, A⟩] := by
 intro m
 induction m with
 | zero =>
  intro i h b g S So P hi hn hP d
  have hi' : i = ls.length := by omega
  subst hi'
  rw [List.drop_of_length_le (Nat.le_refl _)]
  suffices w : Wp (B46_1 base [some (.pointer (at0 pb)), some (.pointer (at0 tb)), some (.slice lk ls.length ls.length), some (.int .i64 (ls.length : Int)), some (.int .i64 (ls.length : Int))] h) fun o => o = (4, [], h) by
   obtain ⟨o, e, rfl⟩ := w
   exact ⟨_, loop_off (by decide) e, rfl, b, g, S, So, d⟩
  rw [B46_1_eq]
  exact W.ifF (by simp) (W.ret rfl)
 | succ m ihm =>
  intro i h b g S So P hi hn hP d
  have hlt : i < ls.length := by omega
  suffices w : Wp (B46_1 base [some (.pointer (at0 pb)), some (.pointer (at0 tb)), some (.slice lk ls.length ls.length), some (.int .i64 (ls.length : Int)), some (.int .i64 (i : Int))] h) fun o => o.1 = 0 ∧ o.2.1 = [some (.pointer (at0 pb)), some (.pointer (at0 tb)), some (.slice lk ls.length ls.length), some (.int .i64 (ls.length : Int)), some (.int .i64 ((i + 1 : Nat) : Int))] ∧ ∃ b' g' S' So', Hs base V h0 o.2.2 [(pb, 36, plV a P.code.length b' (endP false t n ls[i] P).acs.length P.next g' (endP false t n ls[i] P).out.length), (tb, 42, termV k0 m0 s0 ta tl)] [rIn p fun y => TmR y p f t (termV k0 m0 s0 ta tl), rAs base F S' (endP false t n ls[i] P).acs b', rSs base f So' (endP false t n ls[i] P).out g', ⟨C, true, A⟩] by
   obtain ⟨⟨o1, o2, h'⟩, e, q⟩ := w
   obtain ⟨y1, y2, b', g', S', So', d'⟩ := q
   simp only at y1 y2 d'
   subst y1; subst y2
   obtain ⟨q1, q2⟩ := endP_PE false t n ls[i] P hP
   obtain ⟨q3, q4⟩ := endP_code false t n ls[i] P
   obtain ⟨o, eo, q⟩ := ihm (i + 1) h' b' g' S' So' (endP false t n ls[i] P) (by omega) (by omega) q1 (by rw [q3, q4]; exact d')
   refine ⟨o, loop_on e eo, ?_⟩
   rw [q3, q4] at q
   rw [List.drop_eq_getElem_cons hlt, List.foldl_cons]
   exact q
  rw [B46_1_eq]
  refine W.ifT (decide_eq_true (by omega)) (W.ifT ⟨by omega, by omega⟩ ?_)
  rw [Int.toNat_natCast]
  refine W.ri (hA _ (d.rs (i := 3) rfl)) hlt ?_
  ((try simp only [n1, n2, n3, n4, n5, n6] at d); (with_reducible repeat first | refine W.a1 d ?_ | refine W.a2 ?_ | refine W.a3 ?_ | refine W.bo ?_ | refine W.a5 d fun hw d lw kw => ?_ | refine W.a6 d ?_ | refine W.a7 ?_ | refine W.a8 ?_))
  have d1 := Hs.part (D1 := [_]) (R1 := [_, _, _]) d
  refine W.wb (ih P ls[i] a b g S So _ _ _ hn hP d1) ?_
  rintro ⟨u, h3⟩ ⟨y1, b', g', S', So', d3⟩
  simp only at y1 d3
  subst y1
  have d := Hs.back (D1 := [_]) (R1 := [_, _, _]) d d3 (im3 rfl rfl rfl)
  ((try simp only [n1, n2, n3, n4, n5, n6] at d); (with_reducible repeat first | refine W.a1 d ?_ | refine W.a2 ?_ | refine W.a3 ?_ | refine W.bo ?_ | refine W.a5 d fun hw d lw kw => ?_ | refine W.a6 d ?_ | refine W.a7 ?_ | refine W.a8 ?_))
  rw [w64i (n := (i : Int) + 1) (by omega) (by omega)]
  exact W.ret ⟨rfl, rfl, b', g', S', So', d⟩
theorem implEnd_run {base F f pb : Nat} {p : Fp} {t : Tm} {k0 m0 : Int} {s0 : ByteArray} {ta : Option Addr} {tl : Nat} (hB : TmB f t) : ∀ n, EndsR base F f pb p t k0 m0 s0 ta tl (okI k0 s0) 46 n := by
 intro n
 induction n with
 | zero =>
  intro P pid a b g S So V h0 h hn hP d
  have hz : P.acs = [] := List.eq_nil_of_length_eq_zero (by omega)
  refine W.of (fun r hx => Am.r46 hx) ?_
  ((try simp only [n1, n2, n3, n4, n5, n6] at d); (with_reducible repeat first | refine W.a1 d ?_ | refine W.a2 ?_ | refine W.a3 ?_ | refine W.bo ?_ | refine W.a5 d fun hw d lw kw => ?_ | refine W.a6 d ?_ | refine W.a7 ?_ | refine W.a8 ?_); (refine W.nD d fun h1 d _ kh1 => ?_); (with_reducible repeat first | refine W.a1 d ?_ | refine W.a2 ?_ | refine W.a3 ?_ | refine W.bo ?_ | refine W.a5 d fun hw d lw kw => ?_ | refine W.a6 d ?_ | refine W.a7 ?_ | refine W.a8 ?_))
  obtain ⟨h2, e2, k2⟩ := at_run (base := base) (b := pb) (l := P.acs) (a := b) (v := pid) (by omega) (RowO.asR (d.rs (i := 1) rfl)) (d.getI (o := 1) (by (· repeat first | exact .head _ | apply List.Mem.tail)) rfl) d.ge
  have d := d.kN k2
  refine W.bs e2 ?_
  ((try simp only [n1, n2, n3, n4, n5, n6] at d); (with_reducible repeat first | refine W.a1 d ?_ | refine W.a2 ?_ | refine W.a3 ?_ | refine W.bo ?_ | refine W.a5 d fun hw d lw kw => ?_ | refine W.a6 d ?_ | refine W.a7 ?_ | refine W.a8 ?_))
  refine W.ifT (by rw [hz]; rfl) (W.ret ⟨rfl, b, g, S, So, ?_⟩)
  exact d.tl
 | succ n ih =>
  intro P pid a b g S So V h0 h hn hP d
  obtain ⟨p1, p2, p3⟩ := hP
  refine W.of (fun r hx => Am.r46 hx) ?_
  ((try simp only [n1, n2, n3, n4, n5, n6] at d); (with_reducible repeat first | refine W.a1 d ?_ | refine W.a2 ?_ | refine W.a3 ?_ | refine W.bo ?_ | refine W.a5 d fun hw d lw kw => ?_ | refine W.a6 d ?_ | refine W.a7 ?_ | refine W.a8 ?_); (refine W.nD d fun h1 d _ kh1 => ?_); (with_reducible repeat first | refine W.a1 d ?_ | refine W.a2 ?_ | refine W.a3 ?_ | refine W.bo ?_ | refine W.a5 d fun hw d lw kw => ?_ | refine W.a6 d ?_ | refine W.a7 ?_ | refine W.a8 ?_))
  obtain ⟨h2, e2, k2⟩ := at_run (base := base) (b := pb) (l := P.acs) (a := b) (v := pid) (by omega) (RowO.asR (d.rs (i := 1) rfl)) (d.getI (o := 1) (by (· repeat first | exact .head _ | apply List.Mem.tail)) rfl) d.ge
  have d := d.kN k2
  refine W.bs e2 ?_
  ((try simp only [n1, n2, n3, n4, n5, n6] at d); (with_reducible repeat first | refine W.a1 d ?_ | refine W.a2 ?_ | refine W.a3 ?_ | refine W.bo ?_ | refine W.a5 d fun hw d lw kw => ?_ | refine W.a6 d ?_ | refine W.a7 ?_ | refine W.a8 ?_))
  refine W.ite (fun c => ?_) (fun c => ?_)
  ·refine W.ret ⟨rfl, b, g, S, So, ?_⟩
   rw [endP, if_pos c]
   exact d.tl
  have hlt := atL_lt pid P.acs 0
  have c' : ¬ atL pid 0 P.acs < 0 := by simpa using c
  have hi : (atL pid 0 P.acs).toNat < P.acs.length := by omega
  obtain ⟨q, eq⟩ : ∃ q, (atL pid 0 P.acs).toNat = q := ⟨_, rfl⟩
  have eq' : atL pid 0 P.acs = (q : Int) := by omega
  rw [eq] at hi
  rw [eq'] at c ⊢
  ((try simp only [n1, n2, n3, n4, n5, n6] at d); (with_reducible repeat first | refine W.a1 d ?_ | refine W.a2 ?_ | refine W.a3 ?_ | refine W.bo ?_ | refine W.a5 d fun hw d lw kw => ?_ | refine W.a6 d ?_ | refine W.a7 ?_ | refine W.a8 ?_))
  rw [Int.toNat_natCast]
  have row2 : RowO base 118 5 (AcG base F) S h2 P.acs b := d.rs (i := 1) rfl
  have ok2 : TyOk base h2 b 118 := by obtain ⟨_, _, o, _⟩ := row2; exact TyOk.own o
  obtain ⟨vs, T, er, ev, hsl, hT, hTb, ch⟩ := row2.raws acG_leaf (by decide)
  have hvl := ch.leaf acG_leaf (by decide) ev
  obtain ⟨CC, _, _, c3⟩ := ch
  obtain ⟨ra, rb, rc, ech⟩ := (c3 q _ (List.getElem?_eq_getElem hi)).form2
  have hq5 : q * 5 + 4 < vs.length := by omega
  have e4 : vs[q * 5 + 4]? = some (.slice rc P.acs[q].links.length P.acs[q].links.length) := by
   have : (chunk 5 q vs)[4]? = some (.slice rc P.acs[q].links.length P.acs[q].links.length) := by rw [ech]; rfl
   rw [chunk, List.getElem?_take_of_lt (by decide), List.getElem?_drop] at this
   exact this
  obtain ⟨ad, rfl, g4⟩ := hsl.at e4
  refine W.bs rfl (W.bS g4 ?_)
  ((try simp only [n1, n2, n3, n4, n5, n6] at d); (with_reducible repeat first | refine W.a1 d ?_ | refine W.a2 ?_ | refine W.a3 ?_ | refine W.bo ?_ | refine W.a5 d fun hw d lw kw => ?_ | refine W.a6 d ?_ | refine W.a7 ?_ | refine W.a8 ?_))
  have er1 : rawAt h2 (shiftA (some ad) (0 * 5)) ((q - 0) * 5) = some (vs.take (q * 5)) := by
   have := rawAt_part (n := 0) (m := q * 5) hsl hvl (by omega)
   rw [List.drop_zero] at this
   simpa using this
  refine W.ifT ⟨by omega, by omega, by show (q : Int) ≤ (P.acs.length : Int); omega, rfl⟩ ?_
  rw [show Int.toNat 0 = 0 from rfl, er1]
  have hbl : ∀ x, blk (some ad) x → x < h2.length := fun x hx => by obtain ⟨ad', e', rfl⟩ := hx; injection e' with e'; subst e'; exact (ok2 ad rfl).1
  have d := d.call (KB.refl NoB _) (fun _ => False) (fun y => Own base 118 y none []) (.inl ⟨rfl, rfl⟩) (fun U y y' k hs x => Own.keep x k fun b hb => by obtain ⟨_, e, _⟩ := hb; cases e) (fun _ h => h.elim)
  obtain ⟨a4, h4, e4, d, q4, k4⟩ := d.appO (i := 3) (w := 5) (n := 0) (m := q) (bytes := 88) rfl (fun b hb => by obtain ⟨_, e, _⟩ := hb; cases e) (rfl : some (vs.take (q * 5)) = some _) (by decide) (by rfl) (by simp; omega) (by omega) (by omega)
  simp only [Nat.zero_add, List.nil_append, Nat.sub_zero] at e4 d ⊢
  refine W.bs e4 ?_
  have l4 : ∀ b, blk a4 b → h2.length ≤ b := fun b hb => by rcases q4 b hb with h | h; exact h.elim; omega
  have u4 : ∀ b, blk (some ad) b → ¬ False := fun b hb h => h
  have ok4 := ok2.keep k4 u4
  have hsl := hsl.keep k4 fun b hb hu => u4 b hb hu
  have er := rawAt_keep k4 u4 er
  ((try simp only [n1, n2, n3, n4, n5, n6] at d); (with_reducible repeat first | refine W.a1 d ?_ | refine W.a2 ?_ | refine W.a3 ?_ | refine W.bo ?_ | refine W.a5 d fun hw d lw kw => ?_ | refine W.a6 d ?_ | refine W.a7 ?_ | refine W.a8 ?_))
  refine W.gt (ok2.same0 k4 u4) ?_
  rw [w64i (n := (q : Int) + 1) (by omega) (by omega)]
  refine W.ifT ⟨by omega, by show (q : Int) + 1 ≤ (P.acs.length : Int); omega, Int.le_refl _, ok4.ok _⟩ ?_
  have eq1 : Int.toNat ((q : Int) + 1) = q + 1 := by omega
  have er2 : rawAt h4 (shiftA (some ad) ((q + 1) * 5)) ((P.acs.length - (q + 1)) * 5) = some (vs.drop ((q + 1) * 5)) := by
   have := rawAt_part (n := (q + 1) * 5) (m := (P.acs.length - (q + 1)) * 5) hsl hvl (by omega)
   rw [this, List.take_of_length_le (by simp; omega)]
  simp only [eq1, Int.toNat_natCast]
  rw [er2]
  obtain ⟨a5, h5, e5, d, q5, k5⟩ := d.appO (i := 3) (w := 5) (n := q) (m := P.acs.length - (q + 1)) (bytes := 88) rfl (fun b h => h) (rfl : some (vs.drop ((q + 1) * 5)) = some _) (by decide) (by simp; omega) (by simp; omega) (by omega) (by omega)
  refine W.bs e5 ?_
  have u5 : ∀ b, blk (some ad) b → ¬ blk a4 b := fun b hb hs => by have := hbl b hb; have := l4 b hs; omega
  have er := rawAt_keep k5 u5 er
  obtain ⟨C, S5, d, hC, hS5⟩ := d.cut (AcG.kp _ _) (i := 1) (j := 3) (q := q) rfl hi acG_leaf (by decide) er (by decide) rfl (fun b h => h)
  ((try simp only [n1, n2, n3, n4, n5, n6] at d); (with_reducible repeat first | refine W.a1 d ?_ | refine W.a2 ?_ | refine W.a3 ?_ | refine W.bo ?_ | refine W.a5 d fun hw d lw kw => ?_ | refine W.a6 d ?_ | refine W.a7 ?_ | refine W.a8 ?_))
  have ecl : q + (P.acs.length - (q + 1)) = (cutA q P.acs).length := by have := cutA_len hi; omega
  have hcut := cutA_len hi
  have d := d.front (.there .here)
  simp only [ecl] at d ⊢
  have d : Hs base V h0 hw [(pb, 36, plV a P.code.length a5 (cutA q P.acs).length P.next g P.out.length), (h.length, 42, termV k0 m0 s0 ta tl)] [rIn p fun y => TmR y p f t (termV k0 m0 s0 ta tl), rAs base F S5 (cutA q P.acs) a5, rSs base f So P.out g, ⟨C, true, fun x => AcG base F C x P.acs[q] (chunk 5 q vs)⟩] := d
  have d := d.frontR (Del.at (i := 1) rfl)
  have d1 := Hs.part (D1 := [_]) (R1 := [_]) d
  have w1 := implUnl_loop (base := base) (F := F) (pb := pb) (tb := h.length) (P := ⟨P.code, cutA q P.acs, P.next, P.out⟩) (a := a) (b := a5) (g := g) (lk := rc) (lm := P.acs[q].links.length) (v := pid) (by show (cutA q P.acs).length ≤ _; omega) (fun A hA => p3 A (cutA_mem hA)) (cutA q P.acs).length 0 hw S5 (by show 0 + (cutA q P.acs).length = (cutA q P.acs).length; omega) (by simpa using d1)
  refine W.wb w1 ?_
  rintro ⟨o1, o2, h6⟩ ⟨y1, y2, S6, d6⟩
  simp only at y1 y2 d6
  subst y1; subst y2
  have d := Hs.back (D1 := [_]) (R1 := [_]) d d6 (fun r hr hm => by simp only [List.mem_cons, List.not_mem_nil, or_false] at hr; subst hr; cases hm)
  have d := d.frontR (Del.at (i := 1) rfl)
  refine W.ifT rfl ?_
  ((try simp only [n1, n2, n3, n4, n5, n6] at d); (with_reducible repeat first | refine W.a1 d ?_ | refine W.a2 ?_ | refine W.a3 ?_ | refine W.bo ?_ | refine W.a5 d fun hw d lw kw => ?_ | refine W.a6 d ?_ | refine W.a7 ?_ | refine W.a8 ?_))
  obtain ⟨a7, h7, e7, r7, k7, n7⟩ := implSay_run (base := base) (f := f) h6 So P.out g 3 pid p t k0 m0 s0 ta tl (d.rs (i := 2) rfl) p2 (d.rs (i := 0) rfl) hB (d.rlt (i := 2) rfl) (d.rlt (i := 0) rfl) d.ge
  have rowg : RowO base 137 6 (SdD f) So h6 P.out g := d.rs (i := 2) rfl
  have d := d.updO (SdD.kp _) (Upd.at (i := 2) rfl) rfl k7 r7 (fun b hb => .inl (rowg.blkS b hb)) (fun b hb => hb)
  refine W.bs e7 ?_
  ((try simp only [n1, n2, n3, n4, n5, n6] at d); (with_reducible repeat first | refine W.a1 d ?_ | refine W.a2 ?_ | refine W.a3 ?_ | refine W.bo ?_ | refine W.a5 d fun hw d lw kw => ?_ | refine W.a6 d ?_ | refine W.a7 ?_ | refine W.a8 ?_))
  have em : ((cutA q P.acs).map (unlk pid)).length = (cutA q P.acs).length := List.length_map _
  have d : Hs base V h0 hw [(pb, 36, plV a P.code.length a5 (cutA q P.acs).length P.next a7 (sayL P.out 3 pid t).length), (h.length, 42, termV k0 m0 s0 ta tl)] [rIn p fun y => TmR y p f t (termV k0 m0 s0 ta tl), rAs base F S6 ((cutA q P.acs).map (unlk pid)) a5, rSs base f (fun b => So b ∨ (h6.length ≤ b ∧ b < h7.length)) (sayL P.out 3 pid t) a7, ⟨C, true, fun x => AcG base F C x P.acs[q] (chunk 5 q vs)⟩] := d
  rw [← em] at d
  have hA : ∀ y, AcG base F C y P.acs[q] (chunk 5 q vs) → Sl y rc (iv .i64 P.acs[q].links) := fun y x => by
   obtain ⟨_, _, rc', _, _, S3, ecs, _, _, q3, _⟩ := x
   rw [ech] at ecs
   injection ecs with _ ecs
   injection ecs with _ ecs
   injection ecs with _ ecs
   injection ecs with _ ecs
   injection ecs with ecs _
   injection ecs with ecs _ _
   subst ecs
   exact q3.sl
  have hPE : PE ⟨P.code, (cutA q P.acs).map (unlk pid), P.next, sayL P.out 3 pid t⟩ := by
   refine ⟨by show ((cutA q P.acs).map (unlk pid)).length ≤ _; omega, sayL_le p2, fun A hA => ?_⟩
   obtain ⟨B, hB, rfl⟩ := List.mem_map.1 hA
   exact Nat.le_trans dropI_len (p3 B (cutA_mem hB))
  obtain ⟨h9, e9, k9⟩ := isOk_run (base := base) (h := hw) (k := k0) (n := m0) (s := s0) (a := ta) (m := tl) d.ge
  have d := d.kN k9
  refine W.bs e9 ?_
  ((try simp only [n1, n2, n3, n4, n5, n6] at d); (with_reducible repeat first | refine W.a1 d ?_ | refine W.a2 ?_ | refine W.a3 ?_ | refine W.bo ?_ | refine W.a5 d fun hw d lw kw => ?_ | refine W.a6 d ?_ | refine W.a7 ?_ | refine W.a8 ?_))
  by_cases ck : okI k0 s0 = true
  ·refine W.ifT ck (W.ret ⟨rfl, a5, a7, S6, (fun b => So b ∨ (h6.length ≤ b ∧ b < h7.length)), ?_⟩)
   have ee : endP (okI k0 s0) t (n + 1) pid P = ⟨P.code, (cutA q P.acs).map (unlk pid), P.next, sayL P.out 3 pid t⟩ := by
    rw [endP, eq', if_neg c, Int.toNat_natCast, if_pos ck]
   rw [ee]
   have d9 := (d.front (.there .here)).tl
   exact d9.takeR 3
  refine W.ifF ck ?_
  have ck : okI k0 s0 = false := by simpa using ck
  rw [ck] at ih
  refine W.wb (implEnd_loop (base := base) ih (A := fun x => AcG base F C x P.acs[q] (chunk 5 q vs)) hA (p3 _ (List.getElem_mem hi)) P.acs[q].links.length 0 h9 a5 a7 S6 _ ⟨P.code, (cutA q P.acs).map (unlk pid), P.next, sayL P.out 3 pid t⟩ (by omega) (by show ((cutA q P.acs).map (unlk pid)).length ≤ _; omega) hPE d) ?_
  rintro ⟨o1, o2, h8⟩ ⟨y1, b8, g8, S8, So8, d8⟩
  simp only at y1 d8
  subst y1
  refine W.ifT rfl (W.ret ⟨rfl, b8, g8, S8, So8, ?_⟩)
  have ee : endP (okI k0 s0) t (n + 1) pid P = (P.acs[q].links.drop 0).foldl (fun Q m => endP false t n m Q) ⟨P.code, (cutA q P.acs).map (unlk pid), P.next, sayL P.out 3 pid t⟩ := by
   rw [endP, eq', if_neg c, Int.toNat_natCast, aD hi, List.drop_zero, ck]
   rfl
  rw [ee]
  have d9 := (d8.front (.there .here)).tl
  exact d9.takeR 3
end Go.Proofs.YtjmkbglnjklbcaaGreat.Am
set_option linter.unusedSimpArgs false
set_option linter.unusedVariables false
namespace Go.Proofs.YtjmkbglnjklbcaaGreat.Am
open Go Go.RowKit
theorem okA_okI {f : Nat} {k n : Int} {s : ByteArray} {l : List Tm} (h : tOk f (.mk k n s l) = true) : okA k n s l.length = okI k s := by
 cases f with
 | zero => simp [tOk, lk] at h
 | succ f =>
  unfold tOk at h
  rw [lk] at h
  have hs : shB k n s l.length = true := by
   by_cases c : shB k n s l.length = true
   ·exact c
   ·rw [if_pos (Or.inr (Or.inr (by simpa using c)))] at h
    simp at h
  unfold okA isA okI
  by_cases c : k = 2
  ·subst c
   simp [shB] at hs
   obtain ⟨⟨h1, _⟩, h2⟩ := hs
   simp [h1, h2]
  ·have c1 : (k == 2) = false := by simpa using c
   simp [c1, bne]
def notE (f : Nat) (P : Pl) (pid : Int) (t : Tm) : Bool := if (!plOk f P) = true then true else if (!tOk f t) = true then true else decide (atL pid 0 P.acs < 0)
def okT : Tm → Bool
 | .mk k n s l => okI k s
def resE (f : Nat) (P : Pl) (pid : Int) (t : Tm) : Pl := if notE f P pid t = true then P else endP (okT t) t P.acs.length pid P
namespace Hs
variable {base : Nat} {W : Fp} {h0 h : AH} {D : Ds} {R : List Rs}
theorem call3 {h' : AH} (d : Hs base W h0 h D R) (k : KB NoB h h') (S T U : Fp) (A B C : AH → Prop) (hA : A h') (hB : B h') (hC : C h') (okA : ∀ (U : Fp) (h h' : AH), KB U h h' → (∀ b, S b → ¬ U b) → A h → A h') (okB : ∀ (U : Fp) (h h' : AH), KB U h h' → (∀ b, T b → ¬ U b) → B h → B h') (okC : ∀ (V : Fp) (h h' : AH), KB V h h' → (∀ b, U b → ¬ V b) → C h → C h') (hS : ∀ b, S b → h.length ≤ b ∧ b < h'.length) (hT : ∀ b, T b → h.length ≤ b ∧ b < h'.length) (hU : ∀ b, U b → h.length ≤ b ∧ b < h'.length) (hd : ∀ b, S b → ¬ T b) (hd2 : ∀ b, S b → ¬ U b) (hd3 : ∀ b, T b → ¬ U b) : Hs base W h0 h' D (R ++ [⟨S, true, A⟩] ++ [⟨T, true, B⟩] ++ [⟨U, true, C⟩]) := by
 have d1 := d.call2 k S T A B hA hB okA okB hS hT hd
 have d2 := d.call k U C hC okC hU
 refine ⟨d1.ge, d1.kb, d1.own, d1.nd, fun r hr => ?_, ?_⟩
 ·rcases List.mem_append.1 hr with hr | hr
  ·exact d1.res r hr
  ·exact d2.res r (List.mem_append_right _ hr)
 ·rw [List.pairwise_append]
  refine ⟨d1.dj, by simp, fun r hr s hs => ?_⟩
  rcases List.mem_append.1 hr with hr | hr
  ·rcases List.mem_append.1 hr with hr | hr
   ·exact (List.pairwise_append.1 d2.dj).2.2 r hr s hs
   ·rw [List.mem_singleton] at hr hs
    subst hr; subst hs
    exact fun _ => hd2
  ·rw [List.mem_singleton] at hr hs
   subst hr; subst hs
   exact fun _ => hd3
end Hs
theorem PlB.PE {f : Nat} {P : Pl} (x : PlB f P) : PE P := ⟨x.2.2.1, x.2.2.2.2.1, fun A hA => (x.2.2.2.1 A hA).2.2.1⟩
theorem specPlainEnd_run {base f : Nat} {h : AH} {p q : Fp} {P : Pl} {cs : List Value} {k n : Int} {s : ByteArray} {l : List Tm} {ta : Option Addr} {pid : Int} (hB : PlB f P) (x : PlR h p f P cs) (hp : ∀ b, p b → b < h.length) (hTB : TmB f (.mk k n s l)) (y : TmR h q f (.mk k n s l) (termV k n s ta l.length)) (hq : ∀ b, q b → b < h.length) (hb : base ≤ h.length) :
  Wp (run (Et base) 9 [.agg cs.toArray, .int .i64 pid, .agg (termV k n s ta l.length).toArray] h) fun o => ∃ cs', o.1 = .tuple #[.agg cs'.toArray, .bool (!notE f P pid (.mk k n s l))] ∧ PlG base f (iS h.length o.2.length) o.2 (resE f P pid (.mk k n s l)) cs' ∧ KB NoB h o.2 := by
 have x0 := x
 obtain ⟨a, b, g, rfl, hc, hcb, ha, ho⟩ := x0
 have d := ((Hs.start hb).inp p (fun y => PlR y p f P _) x (fun U h h' k hs x => PlR.keep k hs x) hp (fun x hx => nomatch hx) rfl).inp q (fun h => TmR h q f (.mk k n s l) (termV k n s ta l.length)) y (fun U h h' k hs x => TmR.keep k hs _ _ _ x) hq (fun x hx => nomatch hx) rfl
 refine W.of (fun r hx => Am.r9 hx) ?_
 ((try simp only [n1, n2, n3, n4, n5, n6] at d); (with_reducible repeat first | refine W.a1 d ?_ | refine W.a2 ?_ | refine W.a3 ?_ | refine W.bo ?_ | refine W.a5 d fun hw d lw kw => ?_ | refine W.a6 d ?_ | refine W.a7 ?_ | refine W.a8 ?_); (refine W.nD d fun h1 d _ kh1 => ?_); (with_reducible repeat first | refine W.a1 d ?_ | refine W.a2 ?_ | refine W.a3 ?_ | refine W.bo ?_ | refine W.a5 d fun hw d lw kw => ?_ | refine W.a6 d ?_ | refine W.a7 ?_ | refine W.a8 ?_); (refine W.nD d fun h2 d _ kh2 => ?_); (with_reducible repeat first | refine W.a1 d ?_ | refine W.a2 ?_ | refine W.a3 ?_ | refine W.bo ?_ | refine W.a5 d fun hw d lw kw => ?_ | refine W.a6 d ?_ | refine W.a7 ?_ | refine W.a8 ?_); (refine W.nD d fun h3 d _ kh3 => ?_); (with_reducible repeat first | refine W.a1 d ?_ | refine W.a2 ?_ | refine W.a3 ?_ | refine W.bo ?_ | refine W.a5 d fun hw d lw kw => ?_ | refine W.a6 d ?_ | refine W.a7 ?_ | refine W.a8 ?_))
 obtain ⟨cs4, h4, e4, g4, k4⟩ := l11Copy_run (base := base) hB (d.rs (i := 0) rfl) (d.rlt (i := 0) rfl) d.ge
 have n4 := k4.1
 obtain ⟨a4, b4, c4, S1, S2, S3, rfl, o1, o1b, o2, o3, s1, s2, s3, d12, d13, d23⟩ := g4
 have d := d.call3 k4 S1 S2 S3 (fun y => Own base 145 y a4 (insR P.code)) (fun y => RowO base 118 5 (AcG base f) S2 y P.acs b4) (fun y => RowO base 137 6 (SdD f) S3 y P.out c4) o1 o2 o3 (fun U h h' k hs x => Own.keep x k fun b hb => hs b (o1b b hb)) (fun U h h' k hs x => RowO.keep (AcG.kp _ _) x k hs) (fun U h h' k hs x => RowO.keep (SdD.kp _) x k hs) s1 s2 s3 d12 d13 d23
 refine W.bs e4 ?_
 ((try simp only [n1, n2, n3, n4, n5, n6] at d); (with_reducible repeat first | refine W.a1 d ?_ | refine W.a2 ?_ | refine W.a3 ?_ | refine W.bo ?_ | refine W.a5 d fun hw d lw kw => ?_ | refine W.a6 d ?_ | refine W.a7 ?_ | refine W.a8 ?_); (refine W.nD d fun h5 d _ kh5 => ?_); (with_reducible repeat first | refine W.a1 d ?_ | refine W.a2 ?_ | refine W.a3 ?_ | refine W.bo ?_ | refine W.a5 d fun hw d lw kw => ?_ | refine W.a6 d ?_ | refine W.a7 ?_ | refine W.a8 ?_))
 apply W.jb (notE f P pid (.mk k n s l)) d
 ·unfold notE
  ((try simp only [n1, n2, n3, n4, n5, n6] at d); (with_reducible repeat first | refine W.a1 d ?_ | refine W.a2 ?_ | refine W.a3 ?_ | refine W.bo ?_ | refine W.a5 d fun hw d lw kw => ?_ | refine W.a6 d ?_ | refine W.a7 ?_ | refine W.a8 ?_))
  obtain ⟨h6, e6, k6⟩ := specPlainOk_run (base := base) hB.M (d.rs (i := 0) rfl) d.ge
  have d := d.kN k6
  refine W.bs e6 ?_
  ((try simp only [n1, n2, n3, n4, n5, n6] at d); (with_reducible repeat first | refine W.a1 d ?_ | refine W.a2 ?_ | refine W.a3 ?_ | refine W.bo ?_ | refine W.a5 d fun hw d lw kw => ?_ | refine W.a6 d ?_ | refine W.a7 ?_ | refine W.a8 ?_))
  refine W.ite (fun c => ?_) (fun c => ?_)
  ·rw [if_pos c]
   exact W.lb rfl rfl k6
  rw [if_neg c]
  ((try simp only [n1, n2, n3, n4, n5, n6] at d); (with_reducible repeat first | refine W.a1 d ?_ | refine W.a2 ?_ | refine W.a3 ?_ | refine W.bo ?_ | refine W.a5 d fun hw d lw kw => ?_ | refine W.a6 d ?_ | refine W.a7 ?_ | refine W.a8 ?_))
  obtain ⟨h7, e7, k7⟩ := specTermOk_run (base := base) (d.rs (i := 1) rfl) d.ge
  have d := d.kN k7
  refine W.bs e7 ?_
  ((try simp only [n1, n2, n3, n4, n5, n6] at d); (with_reducible repeat first | refine W.a1 d ?_ | refine W.a2 ?_ | refine W.a3 ?_ | refine W.bo ?_ | refine W.a5 d fun hw d lw kw => ?_ | refine W.a6 d ?_ | refine W.a7 ?_ | refine W.a8 ?_))
  refine W.ite (fun c => ?_) (fun c => ?_)
  ·rw [if_pos c]
   exact W.lb rfl rfl (KB.trans k6 k7 (fun _ _ h => h) (fun _ _ h => h))
  rw [if_neg c]
  ((try simp only [n1, n2, n3, n4, n5, n6] at d); (with_reducible repeat first | refine W.a1 d ?_ | refine W.a2 ?_ | refine W.a3 ?_ | refine W.bo ?_ | refine W.a5 d fun hw d lw kw => ?_ | refine W.a6 d ?_ | refine W.a7 ?_ | refine W.a8 ?_))
  obtain ⟨h8, e8, k8⟩ := l11At_run (base := base) (P := P) (v := pid) (a := a) (b := b) (g := g) (by have := hB.2.2.1; omega) (ha.keep d.kb fun _ _ h => h) d.ge
  have d := d.kN k8
  refine W.bs e8 ?_
  ((try simp only [n1, n2, n3, n4, n5, n6] at d); (with_reducible repeat first | refine W.a1 d ?_ | refine W.a2 ?_ | refine W.a3 ?_ | refine W.bo ?_ | refine W.a5 d fun hw d lw kw => ?_ | refine W.a6 d ?_ | refine W.a7 ?_ | refine W.a8 ?_))
  exact W.lb rfl rfl (KB.trans (KB.trans k6 k7 (fun _ _ h => h) (fun _ _ h => h)) k8 (fun _ _ h => h) (fun _ _ h => h))
 intro h6 d n6
 ((try simp only [n1, n2, n3, n4, n5, n6] at d); (with_reducible repeat first | refine W.a1 d ?_ | refine W.a2 ?_ | refine W.a3 ?_ | refine W.bo ?_ | refine W.a5 d fun hw d lw kw => ?_ | refine W.a6 d ?_ | refine W.a7 ?_ | refine W.a8 ?_))
 refine W.ite (fun c => ?_) (fun c => ?_)
 ·((try simp only [n1, n2, n3, n4, n5, n6] at d); (with_reducible repeat first | refine W.a1 d ?_ | refine W.a2 ?_ | refine W.a3 ?_ | refine W.bo ?_ | refine W.a5 d fun hw d lw kw => ?_ | refine W.a6 d ?_ | refine W.a7 ?_ | refine W.a8 ?_))
  refine W.ret ⟨_, by rw [c]; rfl, ?_, d.kb⟩
  unfold resE
  rw [if_pos c]
  exact PlG.of d (i := 2) (j := 3) (k := 4) (by decide) (by decide) (by decide) rfl o1b rfl rfl
 ·((try simp only [n1, n2, n3, n4, n5, n6] at d); (with_reducible repeat first | refine W.a1 d ?_ | refine W.a2 ?_ | refine W.a3 ?_ | refine W.bo ?_ | refine W.a5 d fun hw d lw kw => ?_ | refine W.a6 d ?_ | refine W.a7 ?_ | refine W.a8 ?_))
  have hE := hB.PE
  have d := ((d.frontR (Del.at (i := 4) rfl)).frontR (Del.at (i := 4) rfl)).frontR (Del.at (i := 3) rfl)
  have d1 := Hs.part (D1 := [_]) (R1 := [_, _, _]) d
  have w := l11Ends_run (base := base) (pb := h4.length) hTB P.acs.length P pid a4 b4 c4 _ _ _ _ _ (Nat.le_refl _) hE d1
  refine W.wb w ?_
  rintro ⟨u, h7⟩ ⟨y1, b', g', S', So', d7⟩
  simp only at y1 d7
  subst y1
  have d := Hs.back (D1 := [_]) (R1 := [_, _, _]) d d7 (im3 rfl rfl rfl)
  ((try simp only [n1, n2, n3, n4, n5, n6] at d); (with_reducible repeat first | refine W.a1 d ?_ | refine W.a2 ?_ | refine W.a3 ?_ | refine W.bo ?_ | refine W.a5 d fun hw d lw kw => ?_ | refine W.a6 d ?_ | refine W.a7 ?_ | refine W.a8 ?_))
  have ec := endP_code (okA k n s l.length) (.mk k n s l) P.acs.length pid P
  have ct : tOk f (.mk k n s l) = true := by
   unfold notE at c
   by_cases e : tOk f (.mk k n s l) = true
   ·exact e
   ·exfalso; apply c
    have e' : tOk f (.mk k n s l) = false := by simpa using e
    simp [e']
  have er : resE f P pid (.mk k n s l) = endP (okA k n s l.length) (.mk k n s l) P.acs.length pid P := by
   unfold resE
   rw [if_neg c, okA_okI ct]
   rfl
  rw [er]
  have c' : notE f P pid (.mk k n s l) = false := by simpa using c
  refine W.ret ⟨_, by rw [c']; rfl, ?_, d.kb⟩
  have G := PlG.of (P := endP (okA k n s l.length) (.mk k n s l) P.acs.length pid P) d (i := 4) (j := 1) (k := 2) (by decide) (by decide) (by decide) (by rw [ec.1]; rfl) o1b rfl rfl
  rw [ec.1, ec.2] at G
  exact G
end Go.Proofs.YtjmkbglnjklbcaaGreat.Am
set_option linter.unusedSimpArgs false
set_option linter.unusedVariables false
namespace Go.Proofs.YtjmkbglnjklbcaaGreat.Am
open Go Go.RowKit
theorem implPlainEnd_run {base f : Nat} {h : AH} {p q : Fp} {P : Pl} {cs : List Value} {k n : Int} {s : ByteArray} {l : List Tm} {ta : Option Addr} {pid : Int} (hB : PlB f P) (x : PlR h p f P cs) (hp : ∀ b, p b → b < h.length) (hTB : TmB f (.mk k n s l)) (y : TmR h q f (.mk k n s l) (termV k n s ta l.length)) (hq : ∀ b, q b → b < h.length) (hb : base ≤ h.length) :
  Wp (run (Et base) 12 [.agg cs.toArray, .int .i64 pid, .agg (termV k n s ta l.length).toArray] h) fun o => ∃ cs', o.1 = .tuple #[.agg cs'.toArray, .bool (!notE f P pid (.mk k n s l))] ∧ PlG base f (iS h.length o.2.length) o.2 (resE f P pid (.mk k n s l)) cs' ∧ KB NoB h o.2 := by
 have x0 := x
 obtain ⟨a, b, g, rfl, hc, hcb, ha, ho⟩ := x0
 have d := ((Hs.start hb).inp p (fun y => PlR y p f P _) x (fun U h h' k hs x => PlR.keep k hs x) hp (fun x hx => nomatch hx) rfl).inp q (fun h => TmR h q f (.mk k n s l) (termV k n s ta l.length)) y (fun U h h' k hs x => TmR.keep k hs _ _ _ x) hq (fun x hx => nomatch hx) rfl
 refine W.of (fun r hx => Am.r12 hx) ?_
 ((try simp only [n1, n2, n3, n4, n5, n6] at d); (with_reducible repeat first | refine W.a1 d ?_ | refine W.a2 ?_ | refine W.a3 ?_ | refine W.bo ?_ | refine W.a5 d fun hw d lw kw => ?_ | refine W.a6 d ?_ | refine W.a7 ?_ | refine W.a8 ?_); (refine W.nD d fun h1 d _ kh1 => ?_); (with_reducible repeat first | refine W.a1 d ?_ | refine W.a2 ?_ | refine W.a3 ?_ | refine W.bo ?_ | refine W.a5 d fun hw d lw kw => ?_ | refine W.a6 d ?_ | refine W.a7 ?_ | refine W.a8 ?_); (refine W.nD d fun h2 d _ kh2 => ?_); (with_reducible repeat first | refine W.a1 d ?_ | refine W.a2 ?_ | refine W.a3 ?_ | refine W.bo ?_ | refine W.a5 d fun hw d lw kw => ?_ | refine W.a6 d ?_ | refine W.a7 ?_ | refine W.a8 ?_); (refine W.nD d fun h3 d _ kh3 => ?_); (with_reducible repeat first | refine W.a1 d ?_ | refine W.a2 ?_ | refine W.a3 ?_ | refine W.bo ?_ | refine W.a5 d fun hw d lw kw => ?_ | refine W.a6 d ?_ | refine W.a7 ?_ | refine W.a8 ?_))
 obtain ⟨cs4, h4, e4, g4, k4⟩ := copyPlain_run (base := base) hB (d.rs (i := 0) rfl) (d.rlt (i := 0) rfl) d.ge
 have n4 := k4.1
 obtain ⟨a4, b4, c4, S1, S2, S3, rfl, o1, o1b, o2, o3, s1, s2, s3, d12, d13, d23⟩ := g4
 have d := d.call3 k4 S1 S2 S3 (fun y => Own base 145 y a4 (insR P.code)) (fun y => RowO base 118 5 (AcG base f) S2 y P.acs b4) (fun y => RowO base 137 6 (SdD f) S3 y P.out c4) o1 o2 o3 (fun U h h' k hs x => Own.keep x k fun b hb => hs b (o1b b hb)) (fun U h h' k hs x => RowO.keep (AcG.kp _ _) x k hs) (fun U h h' k hs x => RowO.keep (SdD.kp _) x k hs) s1 s2 s3 d12 d13 d23
 refine W.bs e4 ?_
 ((try simp only [n1, n2, n3, n4, n5, n6] at d); (with_reducible repeat first | refine W.a1 d ?_ | refine W.a2 ?_ | refine W.a3 ?_ | refine W.bo ?_ | refine W.a5 d fun hw d lw kw => ?_ | refine W.a6 d ?_ | refine W.a7 ?_ | refine W.a8 ?_); (refine W.nD d fun h5 d _ kh5 => ?_); (with_reducible repeat first | refine W.a1 d ?_ | refine W.a2 ?_ | refine W.a3 ?_ | refine W.bo ?_ | refine W.a5 d fun hw d lw kw => ?_ | refine W.a6 d ?_ | refine W.a7 ?_ | refine W.a8 ?_))
 apply W.jb (notE f P pid (.mk k n s l)) d
 ·unfold notE
  ((try simp only [n1, n2, n3, n4, n5, n6] at d); (with_reducible repeat first | refine W.a1 d ?_ | refine W.a2 ?_ | refine W.a3 ?_ | refine W.bo ?_ | refine W.a5 d fun hw d lw kw => ?_ | refine W.a6 d ?_ | refine W.a7 ?_ | refine W.a8 ?_))
  obtain ⟨h6, e6, k6⟩ := implPlainOk_run (base := base) hB.M (d.rs (i := 0) rfl) d.ge
  have d := d.kN k6
  refine W.bs e6 ?_
  ((try simp only [n1, n2, n3, n4, n5, n6] at d); (with_reducible repeat first | refine W.a1 d ?_ | refine W.a2 ?_ | refine W.a3 ?_ | refine W.bo ?_ | refine W.a5 d fun hw d lw kw => ?_ | refine W.a6 d ?_ | refine W.a7 ?_ | refine W.a8 ?_))
  refine W.ite (fun c => ?_) (fun c => ?_)
  ·rw [if_pos c]
   exact W.lb rfl rfl k6
  rw [if_neg c]
  ((try simp only [n1, n2, n3, n4, n5, n6] at d); (with_reducible repeat first | refine W.a1 d ?_ | refine W.a2 ?_ | refine W.a3 ?_ | refine W.bo ?_ | refine W.a5 d fun hw d lw kw => ?_ | refine W.a6 d ?_ | refine W.a7 ?_ | refine W.a8 ?_))
  obtain ⟨h7, e7, k7⟩ := implTermOk_run (base := base) (d.rs (i := 1) rfl) d.ge
  have d := d.kN k7
  refine W.bs e7 ?_
  ((try simp only [n1, n2, n3, n4, n5, n6] at d); (with_reducible repeat first | refine W.a1 d ?_ | refine W.a2 ?_ | refine W.a3 ?_ | refine W.bo ?_ | refine W.a5 d fun hw d lw kw => ?_ | refine W.a6 d ?_ | refine W.a7 ?_ | refine W.a8 ?_))
  refine W.ite (fun c => ?_) (fun c => ?_)
  ·rw [if_pos c]
   exact W.lb rfl rfl (KB.trans k6 k7 (fun _ _ h => h) (fun _ _ h => h))
  rw [if_neg c]
  ((try simp only [n1, n2, n3, n4, n5, n6] at d); (with_reducible repeat first | refine W.a1 d ?_ | refine W.a2 ?_ | refine W.a3 ?_ | refine W.bo ?_ | refine W.a5 d fun hw d lw kw => ?_ | refine W.a6 d ?_ | refine W.a7 ?_ | refine W.a8 ?_))
  obtain ⟨h8, e8, k8⟩ := at_run (base := base) (b := h.length) (l := P.acs) (a := b) (v := pid) (by have := hB.2.2.1; omega) (ha.keep d.kb fun _ _ h => h) (d.getI (o := 1) (by (· repeat first | exact .head _ | apply List.Mem.tail)) rfl) d.ge
  have d := d.kN k8
  refine W.bs e8 ?_
  ((try simp only [n1, n2, n3, n4, n5, n6] at d); (with_reducible repeat first | refine W.a1 d ?_ | refine W.a2 ?_ | refine W.a3 ?_ | refine W.bo ?_ | refine W.a5 d fun hw d lw kw => ?_ | refine W.a6 d ?_ | refine W.a7 ?_ | refine W.a8 ?_))
  exact W.lb rfl rfl (KB.trans (KB.trans k6 k7 (fun _ _ h => h) (fun _ _ h => h)) k8 (fun _ _ h => h) (fun _ _ h => h))
 intro h6 d n6
 ((try simp only [n1, n2, n3, n4, n5, n6] at d); (with_reducible repeat first | refine W.a1 d ?_ | refine W.a2 ?_ | refine W.a3 ?_ | refine W.bo ?_ | refine W.a5 d fun hw d lw kw => ?_ | refine W.a6 d ?_ | refine W.a7 ?_ | refine W.a8 ?_))
 refine W.ite (fun c => ?_) (fun c => ?_)
 ·((try simp only [n1, n2, n3, n4, n5, n6] at d); (with_reducible repeat first | refine W.a1 d ?_ | refine W.a2 ?_ | refine W.a3 ?_ | refine W.bo ?_ | refine W.a5 d fun hw d lw kw => ?_ | refine W.a6 d ?_ | refine W.a7 ?_ | refine W.a8 ?_))
  refine W.ret ⟨_, by rw [c]; rfl, ?_, d.kb⟩
  unfold resE
  rw [if_pos c]
  exact PlG.of d (i := 2) (j := 3) (k := 4) (by decide) (by decide) (by decide) rfl o1b rfl rfl
 ·((try simp only [n1, n2, n3, n4, n5, n6] at d); (with_reducible repeat first | refine W.a1 d ?_ | refine W.a2 ?_ | refine W.a3 ?_ | refine W.bo ?_ | refine W.a5 d fun hw d lw kw => ?_ | refine W.a6 d ?_ | refine W.a7 ?_ | refine W.a8 ?_))
  have hE := hB.PE
  have d := ((d.frontR (Del.at (i := 4) rfl)).frontR (Del.at (i := 4) rfl)).frontR (Del.at (i := 3) rfl)
  have d1 := Hs.part (D1 := [_]) (R1 := [_, _, _]) d
  have w := implEnd_run (base := base) (pb := h4.length) hTB P.acs.length P pid a4 b4 c4 _ _ _ _ _ (Nat.le_refl _) hE d1
  refine W.wb w ?_
  rintro ⟨u, h7⟩ ⟨y1, b', g', S', So', d7⟩
  simp only at y1 d7
  subst y1
  have d := Hs.back (D1 := [_]) (R1 := [_, _, _]) d d7 (im3 rfl rfl rfl)
  ((try simp only [n1, n2, n3, n4, n5, n6] at d); (with_reducible repeat first | refine W.a1 d ?_ | refine W.a2 ?_ | refine W.a3 ?_ | refine W.bo ?_ | refine W.a5 d fun hw d lw kw => ?_ | refine W.a6 d ?_ | refine W.a7 ?_ | refine W.a8 ?_))
  have ec := endP_code (okI k s) (.mk k n s l) P.acs.length pid P
  have er : resE f P pid (.mk k n s l) = endP (okI k s) (.mk k n s l) P.acs.length pid P := by
   unfold resE
   rw [if_neg c]
   rfl
  rw [er]
  have c' : notE f P pid (.mk k n s l) = false := by simpa using c
  refine W.ret ⟨_, by rw [c']; rfl, ?_, d.kb⟩
  have G := PlG.of (P := endP (okI k s) (.mk k n s l) P.acs.length pid P) d (i := 4) (j := 1) (k := 2) (by decide) (by decide) (by decide) (by rw [ec.1]; rfl) o1b rfl rfl
  rw [ec.1, ec.2] at G
  exact G
end Go.Proofs.YtjmkbglnjklbcaaGreat.Am
set_option linter.unusedSimpArgs false
set_option linter.unusedVariables false
namespace Go.Proofs.YtjmkbglnjklbcaaGreat.Am
open Go Go.RowKit
theorem mcA_unlk {f : Nat} {v : Int} {A : Ac} : mcA f (unlk v A) ≤ mcA f A := by
 have := dropI_len (v := v) (l := A.links)
 unfold mcA unlk
 simp only
 omega
theorem mcAs_map {f : Nat} {v : Int} : ∀ l : List Ac, mcAs f (l.map (unlk v)) ≤ mcAs f l
 | [] => Int.le_refl _
 | A :: r => by
  have h1 := mcAs_map (f := f) (v := v) r
  have h2 := mcA_unlk (f := f) (v := v) (A := A)
  rw [List.map_cons, mcAs, mcAs]
  omega
theorem mcAs_app {f : Nat} : ∀ l m : List Ac, mcAs f (l ++ m) = mcAs f l + mcAs f m
 | [], m => by simp [mcAs]
 | A :: r, m => by rw [List.cons_append, mcAs, mcAs, mcAs_app r m]; omega
theorem mcAs_cut {f k : Nat} {l : List Ac} : mcAs f (cutA k l) ≤ mcAs f l := by
 unfold cutA
 have h1 : mcAs f l = mcAs f (l.take k) + mcAs f (l.drop k) := by rw [← mcAs_app, List.take_append_drop]
 have h2 : mcAs f (l.drop (k + 1)) ≤ mcAs f (l.drop k) := by
  cases c : l.drop k with
  | nil => rw [show l.drop (k + 1) = (l.drop k).drop 1 from by rw [List.drop_drop], c]; exact Int.le_refl _
  | cons A r =>
   rw [show l.drop (k + 1) = (l.drop k).drop 1 from by rw [List.drop_drop], c]
   have := mcA_nn f A
   show mcAs f r ≤ _
   rw [mcAs]; omega
 rw [mcAs_app]; omega
theorem mcT_say {f : Nat} {l : List Sd} {kind pid : Int} {t : Tm} : mcT f (sayL l kind pid t) ≤ mcT f l + (5 + 3 * (tcnt f t : Int)) := by
 unfold sayL
 split
 ·omega
 ·unfold mcT
  rw [sumL_app, List.length_append]
  simp only [sumL, List.length_cons, List.length_nil]
  omega
theorem endP_mc (f : Nat) (ok : Bool) (t : Tm) : ∀ n pid P, mcP f (endP ok t n pid P) + (5 + 3 * (tcnt f t : Int)) * ((endP ok t n pid P).acs.length : Int) ≤ mcP f P + (5 + 3 * (tcnt f t : Int)) * (P.acs.length : Int)
 | 0, _, P => Int.le_refl _
 | n + 1, pid, P => by
  rw [endP]
  split
  ·exact Int.le_refl _
  rename_i c
  have c : ¬ atL pid 0 P.acs < 0 := by simpa using c
  have hlt := atL_lt pid P.acs 0
  have hi : (atL pid 0 P.acs).toNat < P.acs.length := by omega
  have hc := cutA_len hi
  have h1 : mcP f ⟨P.code, (cutA (atL pid 0 P.acs).toNat P.acs).map (unlk pid), P.next, sayL P.out 3 pid t⟩ + (5 + 3 * (tcnt f t : Int)) * (((cutA (atL pid 0 P.acs).toNat P.acs).map (unlk pid)).length : Int) ≤ mcP f P + (5 + 3 * (tcnt f t : Int)) * (P.acs.length : Int) := by
   rw [List.length_map]
   have e1 := mcAs_map (f := f) (v := pid) (cutA (atL pid 0 P.acs).toNat P.acs)
   have e2 := mcAs_cut (f := f) (k := (atL pid 0 P.acs).toNat) (l := P.acs)
   have e3 := mcT_say (f := f) (l := P.out) (kind := 3) (pid := pid) (t := t)
   have e4 : (5 + 3 * (tcnt f t : Int)) * (P.acs.length : Int) = (5 + 3 * (tcnt f t : Int)) * ((cutA (atL pid 0 P.acs).toNat P.acs).length : Int) + (5 + 3 * (tcnt f t : Int)) := by
    rw [show (P.acs.length : Int) = ((cutA (atL pid 0 P.acs).toNat P.acs).length : Int) + 1 from by omega, Int.mul_add, Int.mul_one]
   unfold mcP
   simp only
   omega
  split
  ·exact h1
  ·have : ∀ (l : List Int) (Q : Pl), mcP f (l.foldl (fun Q m => endP ok t n m Q) Q) + (5 + 3 * (tcnt f t : Int)) * ((l.foldl (fun Q m => endP ok t n m Q) Q).acs.length : Int) ≤ mcP f Q + (5 + 3 * (tcnt f t : Int)) * (Q.acs.length : Int) := by
    intro l
    induction l with
    | nil => intro Q; exact Int.le_refl _
    | cons m l ih => intro Q; exact Int.le_trans (ih _) (endP_mc f ok t n m Q)
   exact Int.le_trans (this _ _) h1
theorem endP_PlB {f : Nat} {ok : Bool} {t : Tm} (ht : TmB f t) : ∀ n pid P, PlB f P → PlB f (endP ok t n pid P)
 | 0, _, P, h => h
 | n + 1, pid, P, h => by
  rw [endP]
  split
  ·exact h
  rename_i c
  have c : ¬ atL pid 0 P.acs < 0 := by simpa using c
  have hlt := atL_lt pid P.acs 0
  have hi : (atL pid 0 P.acs).toNat < P.acs.length := by omega
  have hc := cutA_len hi
  have h1 : PlB f ⟨P.code, (cutA (atL pid 0 P.acs).toNat P.acs).map (unlk pid), P.next, sayL P.out 3 pid t⟩ := by
   obtain ⟨m1, m2, m3, m4, m5, m6⟩ := h
   refine ⟨m1, m2, by show ((cutA (atL pid 0 P.acs).toNat P.acs).map (unlk pid)).length ≤ _; rw [List.length_map]; omega, fun A hA => ?_, sayL_le m5, fun x hx => ?_⟩
   ·obtain ⟨B, hB, rfl⟩ := List.mem_map.1 hA
    obtain ⟨a1, a2, a3, a4, a5⟩ := m4 B (cutA_mem hB)
    exact ⟨a1, a2, Nat.le_trans dropI_len a3, a4, a5⟩
   ·simp only [sayL] at hx
    split at hx
    ·exact m6 x hx
    ·rcases List.mem_append.1 hx with hx | hx
     ·exact m6 x hx
     ·rw [List.mem_singleton] at hx; subst hx; exact ht
  split
  ·exact h1
  ·have : ∀ (l : List Int) (Q : Pl), PlB f Q → PlB f (l.foldl (fun Q m => endP ok t n m Q) Q) := by
    intro l
    induction l with
    | nil => intro Q hQ; exact hQ
    | cons m l ih => intro Q hQ; exact ih _ (endP_PlB ht n m Q hQ)
   exact this _ _ h1
theorem resE_le {f : Nat} {P : Pl} {pid : Int} {t : Tm} (hB : PlB f P) (ht : TmB f t) (hP : mcP f P ≤ 20000000) (hc : (tcnt f t : Int) ≤ 1048576) : PlB f (resE f P pid t) ∧ 0 ≤ mcP f (resE f P pid t) ∧ mcP f (resE f P pid t) ≤ 200000000 := by
 have nn : ∀ Q : Pl, 0 ≤ mcP f Q := fun Q => by
  have := mcAs_nn f Q.acs
  have : 0 ≤ mcT f Q.out := by unfold mcT; omega
  unfold mcP; omega
 unfold resE
 split
 ·exact ⟨hB, nn _, by omega⟩
 ·rename_i c
  refine ⟨endP_PlB ht _ _ _ hB, nn _, ?_⟩
  have h1 := endP_mc f (okT t) t P.acs.length pid P
  have h20 : (P.acs.length : Int) ≤ 20 := by
   unfold notE at c
   by_cases e : plOk f P = true
   ·unfold plOk at e
    simp only [Bool.and_eq_true, decide_eq_true_eq] at e
    omega
   ·have e' : plOk f P = false := by simpa using e
    simp [e'] at c
  have e1 : (5 + 3 * (tcnt f t : Int)) * (P.acs.length : Int) ≤ (5 + 3 * 1048576) * 20 := Int.mul_le_mul (by omega) h20 (by omega) (by omega)
  have e2 : 0 ≤ (5 + 3 * (tcnt f t : Int)) * ((endP (okT t) t P.acs.length pid P).acs.length : Int) := Int.mul_nonneg (by omega) (by omega)
  omega
end Go.Proofs.YtjmkbglnjklbcaaGreat.Am
set_option linter.unusedSimpArgs false
set_option linter.unusedVariables false
namespace Go.Proofs.YtjmkbglnjklbcaaGreat.Am
open Go Go.RowKit
set_option maxHeartbeats 8000000 in
theorem plainEnd_law {base f : Nat} {h : AH} {p : Nat → Prop} {P0 : Pl} {cs0 : List Value} {v1 : Int} {k2 n2 : Int} {s2 : ByteArray} {l2 : List Tm} {t2 : Option Addr} (hM0 : PlM P0) (x0 : PlR h p (f + 1) P0 cs0) (x2 : TmR h p (f + 1) (.mk k2 n2 s2 l2) (termV k2 n2 s2 t2 l2.length))  (hp : ∀ b, p b → b < h.length) (hb : base ≤ h.length) :
  Wp (run (Et base) 3 [.agg cs0.toArray, .int .i64 v1, .agg (termV k2 n2 s2 t2 l2.length).toArray] h) fun r => r.1 = .bool true := by
 have x0' := x0
 obtain ⟨a0, b0, g0, rfl, _⟩ := x0'
 have hb0 := hb
 have d := Hs.start hb
 have d := d.inp p _ x0 (fun U h h' k hs x => PlR.keep k hs x) hp (fun x hx => nomatch hx) rfl
 have d := d.inp p _ x2 (fun U h h' k hs x => TmR.keep k hs _ _ _ x) hp (fun x hx => nomatch hx) rfl
 refine W.of (fun r hx => Am.r3 hx) ?_
 ((try simp only [n1, n2, n3, n4, n5, n6] at d); (with_reducible repeat first | refine W.a1 d ?_ | refine W.a2 ?_ | refine W.a3 ?_ | refine W.bo ?_ | refine W.a5 d fun hw d lw kw => ?_ | refine W.a6 d ?_ | refine W.a7 ?_ | refine W.a8 ?_); (refine W.nD d fun p0 d _ kp0 => ?_); (with_reducible repeat first | refine W.a1 d ?_ | refine W.a2 ?_ | refine W.a3 ?_ | refine W.bo ?_ | refine W.a5 d fun hw d lw kw => ?_ | refine W.a6 d ?_ | refine W.a7 ?_ | refine W.a8 ?_); (refine W.nD d fun p2 d _ kp2 => ?_); (with_reducible repeat first | refine W.a1 d ?_ | refine W.a2 ?_ | refine W.a3 ?_ | refine W.bo ?_ | refine W.a5 d fun hw d lw kw => ?_ | refine W.a6 d ?_ | refine W.a7 ?_ | refine W.a8 ?_))
 obtain ⟨z0, h2, e3, k4, q1⟩ := szPlain_run (base := base) hM0 (d.rs (i := 0) rfl) d.ge (d.rlt (i := 0) rfl)
 have n5 := k4.1
 have d := d.kN k4
 refine W.bs e3 ?_
 ((try simp only [n1, n2, n3, n4, n5, n6] at d); (with_reducible repeat first | refine W.a1 d ?_ | refine W.a2 ?_ | refine W.a3 ?_ | refine W.bo ?_ | refine W.a5 d fun hw d lw kw => ?_ | refine W.a6 d ?_ | refine W.a7 ?_ | refine W.a8 ?_))
 refine W.ite (fun c => W.ret rfl) (fun c6 => ?_)
 have c6' : ¬ z0 < 0 := by simpa using c6
 obtain ⟨hB0, hw0, hz0, hz0b⟩ := q1 c6'
 have hL0 : ∀ A ∈ P0.acs, A.Le := fun A hA => (hB0.2.2.2.1 A hA).Le
 have hQ0 : 0 ≤ mcP (f + 1) P0 ∧ mcP (f + 1) P0 ≤ 20000000 := by
  have q1 := mcAs_le (f + 1) P0.acs; have q2 := mcAs_nn (f + 1) P0.acs; have q3 := hB0.1
  unfold mcP mcT; omega
 ((try simp only [n1, n2, n3, n4, n5, n6] at d); (with_reducible repeat first | refine W.a1 d ?_ | refine W.a2 ?_ | refine W.a3 ?_ | refine W.bo ?_ | refine W.a5 d fun hw d lw kw => ?_ | refine W.a6 d ?_ | refine W.a7 ?_ | refine W.a8 ?_))
 obtain ⟨z2, h8, e9, k10, hz2a, hz2b, q7⟩ := szTerm_run (base := base) (f + 1) _ p _ _ z0 (d.rs (i := 1) rfl) d.ge (d.rlt (i := 1) rfl) (by omega) (by omega)
 have n11 := k10.1
 have d := d.kN k10
 refine W.bs e9 ?_
 ((try simp only [n1, n2, n3, n4, n5, n6] at d); (with_reducible repeat first | refine W.a1 d ?_ | refine W.a2 ?_ | refine W.a3 ?_ | refine W.bo ?_ | refine W.a5 d fun hw d lw kw => ?_ | refine W.a6 d ?_ | refine W.a7 ?_ | refine W.a8 ?_))
 refine W.ite (fun c => W.ret rfl) (fun c12 => ?_)
 have c12' : ¬ z2 < 0 := by simpa using c12
 obtain ⟨hB2, hw2⟩ := q7 c12'
 ((try simp only [n1, n2, n3, n4, n5, n6] at d); (with_reducible repeat first | refine W.a1 d ?_ | refine W.a2 ?_ | refine W.a3 ?_ | refine W.bo ?_ | refine W.a5 d fun hw d lw kw => ?_ | refine W.a6 d ?_ | refine W.a7 ?_ | refine W.a8 ?_))
 obtain ⟨rB, rM0, rM1⟩ := resE_le (pid := v1) hB0 hB2 hQ0.2 (by omega)
 have rMc := And.intro rM0 rM1
 generalize hR : resE (f + 1) P0 v1 (.mk k2 n2 s2 l2) = R at rB rMc
 obtain ⟨cs13, h15, e16, x14, k17⟩ := toPlain_run (base := base) hB0 (d.rs (i := 0) rfl) d.ge (d.rlt (i := 0) rfl)
 have n18 := k17.1
 obtain ⟨_, _, _, _, _, _, _, rfl⟩ := x14.form
 have d := d.callP (PlG.kp _ _) k17 x14
 refine W.bs e16 ?_
 ((try simp only [n1, n2, n3, n4, n5, n6] at d); (with_reducible repeat first | refine W.a1 d ?_ | refine W.a2 ?_ | refine W.a3 ?_ | refine W.bo ?_ | refine W.a5 d fun hw d lw kw => ?_ | refine W.a6 d ?_ | refine W.a7 ?_ | refine W.a8 ?_))
 obtain ⟨cs19, h21, e22, x20, k23⟩ := toTermG_run (base := base) (f + 1) _ p _ _ (d.rs (i := 1) rfl) hB2 d.ge (d.rlt (i := 1) rfl)
 have n24 := k23.1
 obtain ⟨kk, nn, ss, aa, mm, rfl⟩ := x20.form
 obtain ⟨rfl, rfl, rfl, rfl⟩ := x20.eq
 have d := d.callP (TmG.kp _ _) k23 x20
 refine W.bs e22 ?_
 ((try simp only [n1, n2, n3, n4, n5, n6] at d); (with_reducible repeat first | refine W.a1 d ?_ | refine W.a2 ?_ | refine W.a3 ?_ | refine W.bo ?_ | refine W.a5 d fun hw d lw kw => ?_ | refine W.a6 d ?_ | refine W.a7 ?_ | refine W.a8 ?_))
 have x29 : PlG base (f + 1) _ _ P0 _ := (d.rs (i := 2) rfl)
 have y30 : TmG base (f + 1) _ _ (.mk k2 n2 s2 l2) _ := (d.rs (i := 3) rfl)
 refine W.wb (specPlainEnd_run (pid := v1) hB0 x29.plR (d.rlt (i := 2) rfl) hB2 y30.tmR (d.rlt (i := 3) rfl) d.ge) ?_
 rw [hR]
 rintro ⟨u, h28⟩ ⟨cs25, e, gP26, k27⟩
 simp only at e
 subst e
 obtain ⟨_, _, _, _, _, _, _, rfl⟩ := gP26.form
 have d := d.callP (PlG.kp _ _) k27 gP26
 have n31 : _ ≤ h28.length := k27.1
 ((try simp only [n1, n2, n3, n4, n5, n6] at d); (with_reducible repeat first | refine W.a1 d ?_ | refine W.a2 ?_ | refine W.a3 ?_ | refine W.bo ?_ | refine W.a5 d fun hw d lw kw => ?_ | refine W.a6 d ?_ | refine W.a7 ?_ | refine W.a8 ?_))
 ((try simp only [n1, n2, n3, n4, n5, n6] at d); (with_reducible repeat first | refine W.a1 d ?_ | refine W.a2 ?_ | refine W.a3 ?_ | refine W.bo ?_ | refine W.a5 d fun hw d lw kw => ?_ | refine W.a6 d ?_ | refine W.a7 ?_ | refine W.a8 ?_); (refine W.nD d fun w0 d _ kw0 => ?_); (with_reducible repeat first | refine W.a1 d ?_ | refine W.a2 ?_ | refine W.a3 ?_ | refine W.bo ?_ | refine W.a5 d fun hw d lw kw => ?_ | refine W.a6 d ?_ | refine W.a7 ?_ | refine W.a8 ?_))
 obtain ⟨cs32, h34, e35, x33, k36⟩ := toPlain_run (base := base) hB0 (d.rs (i := 0) rfl) d.ge (d.rlt (i := 0) rfl)
 have n37 := k36.1
 obtain ⟨_, _, _, _, _, _, _, rfl⟩ := x33.form
 have d := d.callP (PlG.kp _ _) k36 x33
 refine W.bs e35 ?_
 ((try simp only [n1, n2, n3, n4, n5, n6] at d); (with_reducible repeat first | refine W.a1 d ?_ | refine W.a2 ?_ | refine W.a3 ?_ | refine W.bo ?_ | refine W.a5 d fun hw d lw kw => ?_ | refine W.a6 d ?_ | refine W.a7 ?_ | refine W.a8 ?_))
 ((try simp only [n1, n2, n3, n4, n5, n6] at d); (with_reducible repeat first | refine W.a1 d ?_ | refine W.a2 ?_ | refine W.a3 ?_ | refine W.bo ?_ | refine W.a5 d fun hw d lw kw => ?_ | refine W.a6 d ?_ | refine W.a7 ?_ | refine W.a8 ?_); (refine W.nD d fun x0 d _ kx0 => ?_); (with_reducible repeat first | refine W.a1 d ?_ | refine W.a2 ?_ | refine W.a3 ?_ | refine W.bo ?_ | refine W.a5 d fun hw d lw kw => ?_ | refine W.a6 d ?_ | refine W.a7 ?_ | refine W.a8 ?_))
 obtain ⟨cs38, h40, e41, x39, k42⟩ := toTermG_run (base := base) (f + 1) _ p _ _ (d.rs (i := 1) rfl) hB2 d.ge (d.rlt (i := 1) rfl)
 have n43 := k42.1
 obtain ⟨kk, nn, ss, aa, mm, rfl⟩ := x39.form
 obtain ⟨rfl, rfl, rfl, rfl⟩ := x39.eq
 have d := d.callP (TmG.kp _ _) k42 x39
 refine W.bs e41 ?_
 ((try simp only [n1, n2, n3, n4, n5, n6] at d); (with_reducible repeat first | refine W.a1 d ?_ | refine W.a2 ?_ | refine W.a3 ?_ | refine W.bo ?_ | refine W.a5 d fun hw d lw kw => ?_ | refine W.a6 d ?_ | refine W.a7 ?_ | refine W.a8 ?_))
 ((try simp only [n1, n2, n3, n4, n5, n6] at d); (with_reducible repeat first | refine W.a1 d ?_ | refine W.a2 ?_ | refine W.a3 ?_ | refine W.bo ?_ | refine W.a5 d fun hw d lw kw => ?_ | refine W.a6 d ?_ | refine W.a7 ?_ | refine W.a8 ?_); (refine W.nD d fun x2 d _ kx2 => ?_); (with_reducible repeat first | refine W.a1 d ?_ | refine W.a2 ?_ | refine W.a3 ?_ | refine W.bo ?_ | refine W.a5 d fun hw d lw kw => ?_ | refine W.a6 d ?_ | refine W.a7 ?_ | refine W.a8 ?_))
 have x48 : PlG base (f + 1) _ _ P0 _ := (d.rs (i := 5) rfl)
 have y49 : TmG base (f + 1) _ _ (.mk k2 n2 s2 l2) _ := (d.rs (i := 6) rfl)
 refine W.wb (implPlainEnd_run (pid := v1) hB0 x48.plR (d.rlt (i := 5) rfl) hB2 y49.tmR (d.rlt (i := 6) rfl) d.ge) ?_
 rw [hR]
 rintro ⟨u, h47⟩ ⟨cs44, e, gP45, k46⟩
 simp only at e
 subst e
 obtain ⟨_, _, _, _, _, _, _, rfl⟩ := gP45.form
 have d := d.callP (PlG.kp _ _) k46 gP45
 have n50 : _ ≤ h47.length := k46.1
 ((try simp only [n1, n2, n3, n4, n5, n6] at d); (with_reducible repeat first | refine W.a1 d ?_ | refine W.a2 ?_ | refine W.a3 ?_ | refine W.bo ?_ | refine W.a5 d fun hw d lw kw => ?_ | refine W.a6 d ?_ | refine W.a7 ?_ | refine W.a8 ?_))
 ((try simp only [n1, n2, n3, n4, n5, n6] at d); (with_reducible repeat first | refine W.a1 d ?_ | refine W.a2 ?_ | refine W.a3 ?_ | refine W.bo ?_ | refine W.a5 d fun hw d lw kw => ?_ | refine W.a6 d ?_ | refine W.a7 ?_ | refine W.a8 ?_); (refine W.nD d fun g0 d _ kg0 => ?_); (with_reducible repeat first | refine W.a1 d ?_ | refine W.a2 ?_ | refine W.a3 ?_ | refine W.bo ?_ | refine W.a5 d fun hw d lw kw => ?_ | refine W.a6 d ?_ | refine W.a7 ?_ | refine W.a8 ?_))
 apply W.jb false d
 ·((try simp only [n1, n2, n3, n4, n5, n6] at d); (with_reducible repeat first | refine W.a1 d ?_ | refine W.a2 ?_ | refine W.a3 ?_ | refine W.bo ?_ | refine W.a5 d fun hw d lw kw => ?_ | refine W.a6 d ?_ | refine W.a7 ?_ | refine W.a8 ?_))
  have x51 : PlG base (f + 1) _ _ R _ := (d.rs (i := 7) rfl)
  have x52 : PlG base (f + 1) _ _ R _ := (d.rs (i := 4) rfl)
  obtain ⟨h53, e54, k55⟩ := eqPlain_run (base := base) rB.M (fun A hA => (rB.2.2.2.1 A hA).Le) x51.plR x52.plR d.ge
  have n56 := k55.1
  have d := d.kN k55
  refine W.bs e54 ?_
  ((try simp only [n1, n2, n3, n4, n5, n6] at d); (with_reducible repeat first | refine W.a1 d ?_ | refine W.a2 ?_ | refine W.a3 ?_ | refine W.bo ?_ | refine W.a5 d fun hw d lw kw => ?_ | refine W.a6 d ?_ | refine W.a7 ?_ | refine W.a8 ?_))
  refine W.ifF (by decide) ?_
  ((try simp only [n1, n2, n3, n4, n5, n6] at d); (with_reducible repeat first | refine W.a1 d ?_ | refine W.a2 ?_ | refine W.a3 ?_ | refine W.bo ?_ | refine W.a5 d fun hw d lw kw => ?_ | refine W.a6 d ?_ | refine W.a7 ?_ | refine W.a8 ?_))
  exact W.lb rfl (by simp) k55
 intro h57 d n58
 ((try simp only [n1, n2, n3, n4, n5, n6] at d); (with_reducible repeat first | refine W.a1 d ?_ | refine W.a2 ?_ | refine W.a3 ?_ | refine W.bo ?_ | refine W.a5 d fun hw d lw kw => ?_ | refine W.a6 d ?_ | refine W.a7 ?_ | refine W.a8 ?_))
 refine W.ifF (by decide) ?_
 ((try simp only [n1, n2, n3, n4, n5, n6] at d); (with_reducible repeat first | refine W.a1 d ?_ | refine W.a2 ?_ | refine W.a3 ?_ | refine W.bo ?_ | refine W.a5 d fun hw d lw kw => ?_ | refine W.a6 d ?_ | refine W.a7 ?_ | refine W.a8 ?_))
 obtain ⟨cs59, h61, e62, x60, k63⟩ := toPlain_run (base := base) hB0 (d.rs (i := 0) rfl) d.ge (d.rlt (i := 0) rfl)
 have n64 := k63.1
 obtain ⟨_, _, _, _, _, _, _, rfl⟩ := x60.form
 have d := d.callP (PlG.kp _ _) k63 x60
 refine W.bs e62 ?_
 ((try simp only [n1, n2, n3, n4, n5, n6] at d); (with_reducible repeat first | refine W.a1 d ?_ | refine W.a2 ?_ | refine W.a3 ?_ | refine W.bo ?_ | refine W.a5 d fun hw d lw kw => ?_ | refine W.a6 d ?_ | refine W.a7 ?_ | refine W.a8 ?_))
 have x65 : PlG base (f + 1) _ _ P0 _ := (d.rs (i := 5) rfl)
 have x66 : PlG base (f + 1) _ _ P0 _ := (d.rs (i := 8) rfl)
 obtain ⟨h67, e68, k69⟩ := eqPlain_run (base := base) hB0.M hL0 x65.plR x66.plR d.ge
 have n70 := k69.1
 have d := d.kN k69
 refine W.bs e68 ?_
 ((try simp only [n1, n2, n3, n4, n5, n6] at d); (with_reducible repeat first | refine W.a1 d ?_ | refine W.a2 ?_ | refine W.a3 ?_ | refine W.bo ?_ | refine W.a5 d fun hw d lw kw => ?_ | refine W.a6 d ?_ | refine W.a7 ?_ | refine W.a8 ?_))
 refine W.ifF (by decide) ?_
 ((try simp only [n1, n2, n3, n4, n5, n6] at d); (with_reducible repeat first | refine W.a1 d ?_ | refine W.a2 ?_ | refine W.a3 ?_ | refine W.bo ?_ | refine W.a5 d fun hw d lw kw => ?_ | refine W.a6 d ?_ | refine W.a7 ?_ | refine W.a8 ?_))
 obtain ⟨cs71, h73, e74, x72, k75⟩ := toTermG_run (base := base) (f + 1) _ p _ _ (d.rs (i := 1) rfl) hB2 d.ge (d.rlt (i := 1) rfl)
 have n76 := k75.1
 obtain ⟨kk, nn, ss, aa, mm, rfl⟩ := x72.form
 obtain ⟨rfl, rfl, rfl, rfl⟩ := x72.eq
 have d := d.callP (TmG.kp _ _) k75 x72
 refine W.bs e74 ?_
 ((try simp only [n1, n2, n3, n4, n5, n6] at d); (with_reducible repeat first | refine W.a1 d ?_ | refine W.a2 ?_ | refine W.a3 ?_ | refine W.bo ?_ | refine W.a5 d fun hw d lw kw => ?_ | refine W.a6 d ?_ | refine W.a7 ?_ | refine W.a8 ?_))
 have x77 : TmG base (f + 1) _ _ (.mk k2 n2 s2 l2) _ := (d.rs (i := 6) rfl)
 have x78 : TmG base (f + 1) _ _ (.mk k2 n2 s2 l2) _ := (d.rs (i := 9) rfl)
 obtain ⟨h79, e80, k81⟩ := eqTerm_run (base := base) (f + 1) (f + 1) _ _ _ _ _ _ x77.tmR x78.tmR d.ge
 have n82 := k81.1
 have d := d.kN k81
 refine W.bs e80 ?_
 ((try simp only [n1, n2, n3, n4, n5, n6] at d); (with_reducible repeat first | refine W.a1 d ?_ | refine W.a2 ?_ | refine W.a3 ?_ | refine W.bo ?_ | refine W.a5 d fun hw d lw kw => ?_ | refine W.a6 d ?_ | refine W.a7 ?_ | refine W.a8 ?_))
 refine W.ifF (by decide) ?_
 ((try simp only [n1, n2, n3, n4, n5, n6] at d); (with_reducible repeat first | refine W.a1 d ?_ | refine W.a2 ?_ | refine W.a3 ?_ | refine W.bo ?_ | refine W.a5 d fun hw d lw kw => ?_ | refine W.a6 d ?_ | refine W.a7 ?_ | refine W.a8 ?_))
 have x83 : PlG base (f + 1) _ _ P0 _ := (d.rs (i := 5) rfl)
 obtain ⟨y84, h85, e86, _, _, _, k87⟩ := markPlain_run (base := base) (k := 1) ⟨hB0.1, hB0.2.2.1, hB0.2.2.2.2.1, hL0⟩ x83.plD (fun b hb => ⟨Nat.le_trans hb0 ((d.rfr (i := 5) rfl rfl b hb).resolve_left fun h => h), d.rlt (i := 5) rfl b hb⟩) d.ge (by omega) (by omega)
 have n88 := k87.1
 have d := d.junk (i := 5) rfl rfl k87 (fun b hb => .inl hb)
 refine W.bs e86 ?_
 ((try simp only [n1, n2, n3, n4, n5, n6] at d); (with_reducible repeat first | refine W.a1 d ?_ | refine W.a2 ?_ | refine W.a3 ?_ | refine W.bo ?_ | refine W.a5 d fun hw d lw kw => ?_ | refine W.a6 d ?_ | refine W.a7 ?_ | refine W.a8 ?_))
 have x89 : TmG base (f + 1) _ _ (.mk k2 n2 s2 l2) _ := (d.rs (i := 6) rfl)
 obtain ⟨z90, h91, e92, hz90, k93⟩ := markTerm_run (base := base) (k := (1 + mcP (f + 1) P0)) x89.d (fun b hb => ⟨Nat.le_trans hb0 ((d.rfr (i := 6) rfl rfl b hb).resolve_left fun h => h), d.rlt (i := 6) rfl b hb⟩) d.ge (by omega) (by omega)
 have n94 := k93.1
 have d := d.junk (i := 6) rfl rfl k93 (fun b hb => .inl hb)
 refine W.bs e92 ?_
 ((try simp only [n1, n2, n3, n4, n5, n6] at d); (with_reducible repeat first | refine W.a1 d ?_ | refine W.a2 ?_ | refine W.a3 ?_ | refine W.bo ?_ | refine W.a5 d fun hw d lw kw => ?_ | refine W.a6 d ?_ | refine W.a7 ?_ | refine W.a8 ?_))
 apply W.jb false d
 ·((try simp only [n1, n2, n3, n4, n5, n6] at d); (with_reducible repeat first | refine W.a1 d ?_ | refine W.a2 ?_ | refine W.a3 ?_ | refine W.bo ?_ | refine W.a5 d fun hw d lw kw => ?_ | refine W.a6 d ?_ | refine W.a7 ?_ | refine W.a8 ?_))
  refine W.ifF (by simp; omega) ?_
  ((try simp only [n1, n2, n3, n4, n5, n6] at d); (with_reducible repeat first | refine W.a1 d ?_ | refine W.a2 ?_ | refine W.a3 ?_ | refine W.bo ?_ | refine W.a5 d fun hw d lw kw => ?_ | refine W.a6 d ?_ | refine W.a7 ?_ | refine W.a8 ?_))
  have x95 : PlG base (f + 1) _ _ R _ := (d.rs (i := 7) rfl)
  have x96 : PlG base (f + 1) _ _ R _ := (d.rs (i := 4) rfl)
  obtain ⟨h97, e98, k99⟩ := eqPlain_run (base := base) rB.M (fun A hA => (rB.2.2.2.1 A hA).Le) x95.plR x96.plR d.ge
  have n100 := k99.1
  have d := d.kN k99
  refine W.bs e98 ?_
  ((try simp only [n1, n2, n3, n4, n5, n6] at d); (with_reducible repeat first | refine W.a1 d ?_ | refine W.a2 ?_ | refine W.a3 ?_ | refine W.bo ?_ | refine W.a5 d fun hw d lw kw => ?_ | refine W.a6 d ?_ | refine W.a7 ?_ | refine W.a8 ?_))
  refine W.ifF (by decide) ?_
  ((try simp only [n1, n2, n3, n4, n5, n6] at d); (with_reducible repeat first | refine W.a1 d ?_ | refine W.a2 ?_ | refine W.a3 ?_ | refine W.bo ?_ | refine W.a5 d fun hw d lw kw => ?_ | refine W.a6 d ?_ | refine W.a7 ?_ | refine W.a8 ?_))
  exact W.lb rfl (by simp) k99
 intro h101 d n102
 ((try simp only [n1, n2, n3, n4, n5, n6] at d); (with_reducible repeat first | refine W.a1 d ?_ | refine W.a2 ?_ | refine W.a3 ?_ | refine W.bo ?_ | refine W.a5 d fun hw d lw kw => ?_ | refine W.a6 d ?_ | refine W.a7 ?_ | refine W.a8 ?_))
 refine W.ifF (by decide) ?_
 ((try simp only [n1, n2, n3, n4, n5, n6] at d); (with_reducible repeat first | refine W.a1 d ?_ | refine W.a2 ?_ | refine W.a3 ?_ | refine W.bo ?_ | refine W.a5 d fun hw d lw kw => ?_ | refine W.a6 d ?_ | refine W.a7 ?_ | refine W.a8 ?_))
 have x103 : PlG base (f + 1) _ _ R _ := (d.rs (i := 7) rfl)
 obtain ⟨P104, h108, e109, D107, M105, B106, k110⟩ := markPlain_run (base := base) (k := 1) ⟨rB.1, rB.2.2.1, rB.2.2.2.2.1, (fun A hA => (rB.2.2.2.1 A hA).Le)⟩ x103.plD (fun b hb => ⟨Nat.le_trans hb0 ((d.rfr (i := 7) rfl rfl b hb).resolve_left fun h => h), d.rlt (i := 7) rfl b hb⟩) d.ge (by omega) (by have := rMc; omega)
 have n111 := k110.1
 have d := d.updP (PlD.kp _ _) (Upd.at (i := 7) rfl) rfl k110 D107 (fun b hb => .inl hb) (fun b hb => .inl hb)
 refine W.bs e109 ?_
 ((try simp only [n1, n2, n3, n4, n5, n6] at d); (with_reducible repeat first | refine W.a1 d ?_ | refine W.a2 ?_ | refine W.a3 ?_ | refine W.bo ?_ | refine W.a5 d fun hw d lw kw => ?_ | refine W.a6 d ?_ | refine W.a7 ?_ | refine W.a8 ?_))
 have x112 : PlD base (f + 1) _ _ P104 _ := (d.rs (i := 7) rfl)
 obtain ⟨h113, e114, k115⟩ := heldPlain_run (base := base) B106 M105 (by omega) (by have := rMc; omega) x112.plR d.ge
 have n116 := k115.1
 have d := d.kN k115
 refine W.bs e114 ?_
 ((try simp only [n1, n2, n3, n4, n5, n6] at d); (with_reducible repeat first | refine W.a1 d ?_ | refine W.a2 ?_ | refine W.a3 ?_ | refine W.bo ?_ | refine W.a5 d fun hw d lw kw => ?_ | refine W.a6 d ?_ | refine W.a7 ?_ | refine W.a8 ?_))
 refine W.ifF (by simp; have := rMc; omega) ?_
 ((try simp only [n1, n2, n3, n4, n5, n6] at d); (with_reducible repeat first | refine W.a1 d ?_ | refine W.a2 ?_ | refine W.a3 ?_ | refine W.bo ?_ | refine W.a5 d fun hw d lw kw => ?_ | refine W.a6 d ?_ | refine W.a7 ?_ | refine W.a8 ?_))
 refine W.ifF (by simp) ?_
 ((try simp only [n1, n2, n3, n4, n5, n6] at d); (with_reducible repeat first | refine W.a1 d ?_ | refine W.a2 ?_ | refine W.a3 ?_ | refine W.bo ?_ | refine W.a5 d fun hw d lw kw => ?_ | refine W.a6 d ?_ | refine W.a7 ?_ | refine W.a8 ?_))
 obtain ⟨cs117, h119, e120, x118, k121⟩ := toPlain_run (base := base) hB0 (d.rs (i := 0) rfl) d.ge (d.rlt (i := 0) rfl)
 have n122 := k121.1
 obtain ⟨_, _, _, _, _, _, _, rfl⟩ := x118.form
 have d := d.callP (PlG.kp _ _) k121 x118
 refine W.bs e120 ?_
 ((try simp only [n1, n2, n3, n4, n5, n6] at d); (with_reducible repeat first | refine W.a1 d ?_ | refine W.a2 ?_ | refine W.a3 ?_ | refine W.bo ?_ | refine W.a5 d fun hw d lw kw => ?_ | refine W.a6 d ?_ | refine W.a7 ?_ | refine W.a8 ?_))
 obtain ⟨cs123, h125, e126, x124, k127⟩ := toTermG_run (base := base) (f + 1) _ p _ _ (d.rs (i := 1) rfl) hB2 d.ge (d.rlt (i := 1) rfl)
 have n128 := k127.1
 obtain ⟨kk, nn, ss, aa, mm, rfl⟩ := x124.form
 obtain ⟨rfl, rfl, rfl, rfl⟩ := x124.eq
 have d := d.callP (TmG.kp _ _) k127 x124
 refine W.bs e126 ?_
 ((try simp only [n1, n2, n3, n4, n5, n6] at d); (with_reducible repeat first | refine W.a1 d ?_ | refine W.a2 ?_ | refine W.a3 ?_ | refine W.bo ?_ | refine W.a5 d fun hw d lw kw => ?_ | refine W.a6 d ?_ | refine W.a7 ?_ | refine W.a8 ?_))
 have x133 : PlG base (f + 1) _ _ P0 _ := (d.rs (i := 10) rfl)
 have y134 : TmG base (f + 1) _ _ (.mk k2 n2 s2 l2) _ := (d.rs (i := 11) rfl)
 refine W.wb (implPlainEnd_run (pid := v1) hB0 x133.plR (d.rlt (i := 10) rfl) hB2 y134.tmR (d.rlt (i := 11) rfl) d.ge) ?_
 rw [hR]
 rintro ⟨u, h132⟩ ⟨cs129, e, gP130, k131⟩
 simp only at e
 subst e
 obtain ⟨_, _, _, _, _, _, _, rfl⟩ := gP130.form
 have d := d.callP (PlG.kp _ _) k131 gP130
 have n135 : _ ≤ h132.length := k131.1
 ((try simp only [n1, n2, n3, n4, n5, n6] at d); (with_reducible repeat first | refine W.a1 d ?_ | refine W.a2 ?_ | refine W.a3 ?_ | refine W.bo ?_ | refine W.a5 d fun hw d lw kw => ?_ | refine W.a6 d ?_ | refine W.a7 ?_ | refine W.a8 ?_))
 ((try simp only [n1, n2, n3, n4, n5, n6] at d); (with_reducible repeat first | refine W.a1 d ?_ | refine W.a2 ?_ | refine W.a3 ?_ | refine W.bo ?_ | refine W.a5 d fun hw d lw kw => ?_ | refine W.a6 d ?_ | refine W.a7 ?_ | refine W.a8 ?_); (refine W.nD d fun v0 d _ kv0 => ?_); (with_reducible repeat first | refine W.a1 d ?_ | refine W.a2 ?_ | refine W.a3 ?_ | refine W.bo ?_ | refine W.a5 d fun hw d lw kw => ?_ | refine W.a6 d ?_ | refine W.a7 ?_ | refine W.a8 ?_))
 apply W.jb false d
 ·((try simp only [n1, n2, n3, n4, n5, n6] at d); (with_reducible repeat first | refine W.a1 d ?_ | refine W.a2 ?_ | refine W.a3 ?_ | refine W.bo ?_ | refine W.a5 d fun hw d lw kw => ?_ | refine W.a6 d ?_ | refine W.a7 ?_ | refine W.a8 ?_))
  have x136 : PlG base (f + 1) _ _ R _ := (d.rs (i := 12) rfl)
  have x137 : PlG base (f + 1) _ _ R _ := (d.rs (i := 4) rfl)
  obtain ⟨h138, e139, k140⟩ := eqPlain_run (base := base) rB.M (fun A hA => (rB.2.2.2.1 A hA).Le) x136.plR x137.plR d.ge
  have n141 := k140.1
  have d := d.kN k140
  refine W.bs e139 ?_
  ((try simp only [n1, n2, n3, n4, n5, n6] at d); (with_reducible repeat first | refine W.a1 d ?_ | refine W.a2 ?_ | refine W.a3 ?_ | refine W.bo ?_ | refine W.a5 d fun hw d lw kw => ?_ | refine W.a6 d ?_ | refine W.a7 ?_ | refine W.a8 ?_))
  refine W.ifF (by decide) ?_
  ((try simp only [n1, n2, n3, n4, n5, n6] at d); (with_reducible repeat first | refine W.a1 d ?_ | refine W.a2 ?_ | refine W.a3 ?_ | refine W.bo ?_ | refine W.a5 d fun hw d lw kw => ?_ | refine W.a6 d ?_ | refine W.a7 ?_ | refine W.a8 ?_))
  exact W.lb rfl (by simp) k140
 intro h142 d n143
 ((try simp only [n1, n2, n3, n4, n5, n6] at d); (with_reducible repeat first | refine W.a1 d ?_ | refine W.a2 ?_ | refine W.a3 ?_ | refine W.bo ?_ | refine W.a5 d fun hw d lw kw => ?_ | refine W.a6 d ?_ | refine W.a7 ?_ | refine W.a8 ?_))
 refine W.ifF (by decide) ?_
 ((try simp only [n1, n2, n3, n4, n5, n6] at d); (with_reducible repeat first | refine W.a1 d ?_ | refine W.a2 ?_ | refine W.a3 ?_ | refine W.bo ?_ | refine W.a5 d fun hw d lw kw => ?_ | refine W.a6 d ?_ | refine W.a7 ?_ | refine W.a8 ?_))
 have x144 : PlD base (f + 1) _ _ P104 _ := (d.rs (i := 7) rfl)
 obtain ⟨h145, e146, k147⟩ := heldPlain_run (base := base) B106 M105 (by omega) (by have := rMc; omega) x144.plR d.ge
 have n148 := k147.1
 have d := d.kN k147
 refine W.bs e146 ?_
 ((try simp only [n1, n2, n3, n4, n5, n6] at d); (with_reducible repeat first | refine W.a1 d ?_ | refine W.a2 ?_ | refine W.a3 ?_ | refine W.bo ?_ | refine W.a5 d fun hw d lw kw => ?_ | refine W.a6 d ?_ | refine W.a7 ?_ | refine W.a8 ?_))
 refine W.ifF (by simp; have := rMc; omega) ?_
 ((try simp only [n1, n2, n3, n4, n5, n6] at d); (with_reducible repeat first | refine W.a1 d ?_ | refine W.a2 ?_ | refine W.a3 ?_ | refine W.bo ?_ | refine W.a5 d fun hw d lw kw => ?_ | refine W.a6 d ?_ | refine W.a7 ?_ | refine W.a8 ?_))
 refine W.ifF (by simp) ?_
 ((try simp only [n1, n2, n3, n4, n5, n6] at d); (with_reducible repeat first | refine W.a1 d ?_ | refine W.a2 ?_ | refine W.a3 ?_ | refine W.bo ?_ | refine W.a5 d fun hw d lw kw => ?_ | refine W.a6 d ?_ | refine W.a7 ?_ | refine W.a8 ?_))
 exact W.ret rfl
theorem plainEnd_entry {base : Nat} {h : AH} {f f2 : Nat} {cs : List Value} {v : Int} {cs2 : List Value} (x : Rd Tryz.prog h f 26 cs) (y : Rd Tryz.prog h f2 29 cs2) (hb : base ≤ h.length) : ∃ h', run (Et base) 3 [.agg cs.toArray, .int .i64 v, .agg cs2.toArray] h = some (.bool true, h') := by
 obtain ⟨g, P, hP, hM⟩ := rd_plain x
 obtain ⟨⟨tk, tn, ts, tl⟩, ht⟩ := rd_term f2 _ y
 have ht : TmR h (· < h.length) (max g f2 + 1) (.mk tk tn ts tl) cs2 := TmR.le (by omega) ht
 have hP : PlR h (· < h.length) (max g f2 + 1) P cs := by
  obtain ⟨a, b, c, e, h1, h2, h3, h4⟩ := hP
  exact ⟨a, b, c, e, h1, h2, AsR.le (by omega) h3, SsR.le (by omega) h4⟩
 have ht' := ht
 obtain ⟨ta, rfl, _⟩ := ht'.parts
 obtain ⟨⟨v, h'⟩, e, q⟩ := plainEnd_law (f := max g f2) (v1 := v) hM hP ht (fun b hb => hb) hb
 simp only at q
 exact ⟨h', by rw [e, q]⟩
end Go.Proofs.YtjmkbglnjklbcaaGreat.Am
