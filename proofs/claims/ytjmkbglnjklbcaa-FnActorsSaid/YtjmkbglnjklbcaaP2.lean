/- What the functions of this law compute, lemma by lemma, up to the law.
Conditions: none. -/
import Derived.Test.YtjmkbglnjklbcaaP1
import Derived.DataShut
import Derived.IntWalk
import Derived.Laws.BitsLemmas

set_option linter.unusedSimpArgs false
set_option linter.unusedVariables false
namespace Go.Proofs.Ytjmkbglnjklbcaa.Am
open Go Go.RowKit
theorem copyIntsO_run {base : Nat} {h : AH} {a : Option Addr} {xs : List Int} (hs : Sl h a (iv .i64 xs)) (hl : xs.length ≤ 1048576 * 4) (hb : base ≤ h.length) :
  ∃ a' h', run (Et base) 110 [.slice a xs.length xs.length] h = some (.slice a' xs.length xs.length, h') ∧ Own base 3 h' a' (iv .i64 xs) ∧ KB NoB h h' ∧ (∀ b, blk a' b → h.length ≤ b) := by
 have hr : rawAt h a (xs.length * 1) = some (iv .i64 xs) := by
  have := hs.raw (iv_leaf _ _)
  simpa using this
 obtain ⟨a1, h1, g1, g2, g3, g4⟩ := Own.app (x := (.inl ⟨rfl, rfl⟩ : Own base 3 h none [])) (bytes := 8) (n := 0) (m := xs.length) (sz := 1) (by simp) (by simp) hr hb (by omega) (by omega) (by simp)
 simp only [Nat.zero_add, List.nil_append] at g1 g2
 refine ⟨a1, h1, Am.r110 (Am.bs g1 (Am.bS rfl rfl)), g2, g3.mono (fun i hi ⟨ad, e, _⟩ => by cases e), fun b hb' => ?_⟩
 rcases g4 with ⟨_, e, _⟩ | g4
 ·rw [e] at hb'; obtain ⟨_, e, _⟩ := hb'; cases e
 ·have := g4 b hb'; omega
theorem copyActor_run {base f : Nat} {h : AH} {p : Nat → Prop} {A : Ac} {cs : List Value} (hB : AcB f A) (x : AcR h p f A cs) (hb : base ≤ h.length) (hp : ∀ b, p b → b < h.length) :
  ∃ cs' h', run (Et base) 97 [.agg cs.toArray] h = some (.agg cs'.toArray, h') ∧ AcG base f (iS h.length h'.length) h' A cs' ∧ KB NoB h h' := by
 obtain ⟨a, b, g, rfl, hr, hx, hl, hlb⟩ := x
 obtain ⟨m1, m2, m3, m4, m5⟩ := hB
 suffices w : Wp (run (Et base) 97 [.agg (acV A.pid A.pc a A.regs.length b A.box.length g A.links.length).toArray] h) fun r => ∃ cs', r.1 = .agg cs'.toArray ∧ AcG base f (iS h.length r.2.length) r.2 A cs' ∧ KB NoB h r.2 by
  obtain ⟨⟨u, h'⟩, e, cs', rfl, q⟩ := w
  exact ⟨cs', h', e, q⟩
 refine W.of (fun r hx => Am.r97 hx) ?_
 refine W.box hb fun h1 o1 k1 q1 => W.box (base := base) (by omega) fun h2 o2 k2 q2 => W.bS ((o1.keepN k2).at0 (i := 2) rfl) ?_
 have o1 := o1.keepN k2
 have k02 := kN k1 k2
 obtain ⟨a3, h3, e3, r3, k3⟩ := copyTerms_run (base := base) (copyTermG_run f) m1 m4 (hr.keep k02 fun _ _ h => h) (by omega) (fun b hb => by have := hp b hb; omega)
 have n3 := k3.1
 have k03 := kN k02 k3
 refine W.bs e3 (W.bS rfl (W.gt (same_keep k3 (o1.at0 (i := 3) rfl)) (W.bS ((o1.keepN k3).at0 (i := 3) rfl) ?_)))
 obtain ⟨a4, h4, e4, r4, k4⟩ := copyTerms_run (base := base) (copyTermG_run f) m2 m5 (hx.keep k03 fun _ _ h => h) (by omega) (fun b hb => by have := hp b hb; omega)
 have n4 := k4.1
 have k04 := kN k03 k4
 have o4 := (o1.keepN k3).keepN k4
 refine W.bs e4 (W.bS rfl (W.gt (same_keep k4 ((o1.keepN k3).at0 (i := 4) rfl)) (W.gt (same_keep (kN k3 k4) (o1.at0 (i := 4) rfl)) (W.bS (o4.at0 (i := 4) rfl) ?_))))
 obtain ⟨a5, h5, e5, r5, k5, f5⟩ := copyIntsO_run (base := base) (hl.keepN k04) (by omega) (by omega)
 have n5 := k5.1
 have k05 := kN k04 k5
 refine W.bs e5 (W.bS rfl (W.wr0 (o4.keepN k5) (by simp) (by simp) fun h6 o6 k6 l6 => W.wr0 o6 (by simp [setAt]) (by simp) fun h7 o7 k7 l7 => W.wr0 o7 (by simp [setAt]) (by simp) fun h8 o8 k8 l8 => ?_))
 have hset : setAt (setAt (setAt (acV A.pid A.pc a A.regs.length b A.box.length g A.links.length) 2 [.slice a3 A.regs.length A.regs.length]) 3 [.slice a4 A.box.length A.box.length]) 4 [.slice a5 A.links.length A.links.length] = acV A.pid A.pc a3 A.regs.length a4 A.box.length a5 A.links.length := rfl
 rw [hset] at o8
 have k58 : KB (· = h.length) h5 h8 := KB.trans (KB.trans k6 k7 (fun _ _ h => h) (fun _ _ h => h)) k8 (fun _ _ h => h) (fun _ _ h => h)
 refine W.bI (o8.at0 (i := 0) rfl) (W.bI (o8.at0 (i := 1) rfl) (W.bS (o8.at0 (i := 2) rfl) (W.bS (o8.at0 (i := 3) rfl) (W.bS (o8.at0 (i := 4) rfl) ?_))))
 have z8 := (((o2.keepN k3).keepN k4).keepN k5).keepB k58 fun i hi => by rw [blk_at0] at hi; omega
 refine W.wr0 z8 (by simp) (by simp) fun h9 o9 k9 l9 => ?_
 have hz : setAt (acV 0 0 none 0 none 0 none 0) 0 (acV A.pid A.pc a3 A.regs.length a4 A.box.length a5 A.links.length) = acV A.pid A.pc a3 A.regs.length a4 A.box.length a5 A.links.length := rfl
 rw [hz] at o9
 refine W.bI (o9.at0 (i := 0) rfl) (W.bI (o9.at0 (i := 1) rfl) (W.bS (o9.at0 (i := 2) rfl) (W.bS (o9.at0 (i := 3) rfl) (W.bS (o9.at0 (i := 4) rfl) (W.ret ⟨_, rfl, ?_, ?_⟩)))))
 ·have n9 : h9.length = h5.length := l9.trans (l8.trans (l7.trans l6))
  refine ⟨a3, a4, a5, iS h2.length h3.length, iS h3.length h4.length, iS h4.length h5.length, rfl, ((((r3.keep (TmG.kp _ _) k4 fun _ _ h => h).keep (TmG.kp _ _) k5 fun _ _ h => h).keep (TmG.kp _ _) k58 fun b hb hk => by omega).keep (TmG.kp _ _) k9 fun b hb hk => by omega),
   (((r4.keep (TmG.kp _ _) k5 fun _ _ h => h).keep (TmG.kp _ _) k58 fun b hb hk => by omega).keep (TmG.kp _ _) k9 fun b hb hk => by omega), (r5.keepB k58 fun b hb => by have := f5 b hb; omega).keepB k9 fun b hb => by have := f5 b hb; omega, fun b hb => ⟨f5 b hb, (r5.lt hb).2⟩, fun b hb => ⟨by omega, by show b < h9.length; omega⟩, fun b hb => ⟨by omega, by show b < h9.length; omega⟩, fun b hb => ⟨by omega, by show b < h9.length; omega⟩, fun b h1 h2 => by omega, fun b h1 h2 => by omega, fun b h1 h2 => by omega⟩
 ·exact kFresh (kFresh k05 k58 fun i hi => by omega) k9 fun i hi => by omega
theorem q7 {base t n : Nat} {h : AH} {kd pid pc k nn : Int} {s : ByteArray} {a : Option Addr} {m : Nat} (o : Own base t h (at0 n) (actV kd pid pc k nn s a m)) {β : Type} {Q : β → Prop} {f : Int → Int → Int → Int → Int → ByteArray → Option Addr × Nat → Option β} (w : Wp (f kd pid pc k nn s (a, m)) Q) :
  Wp (((Am.cell h n 0).bind (getI .i64)).bind fun n1 => ((Am.cell h n 1).bind (getI .i64)).bind fun n2 => ((Am.cell h n 2).bind (getI .i64)).bind fun n3 => ((Am.cell h n 3).bind (getI .i64)).bind fun n4 => ((Am.cell h n 4).bind (getI .i64)).bind fun n5 => ((Am.cell h n 5).bind getStr).bind fun s6 => ((Am.cell h n 6).bind getS).bind fun l7 => f n1 n2 n3 n4 n5 s6 l7) Q :=
 W.bI (o.at0 (i := 0) rfl) (W.bI (o.at0 (i := 1) rfl) (W.bI (o.at0 (i := 2) rfl) (W.bI (o.at0 (i := 3) rfl) (W.bI (o.at0 (i := 4) rfl) (W.bT (o.at0 (i := 5) rfl) (W.bS (o.at0 (i := 6) rfl) w))))))
theorem tmZ_G {base f : Nat} {S : Fp} {h : AH} : TmG base (f + 1) S h tmZ (termV 0 0 ⟨#[]⟩ none 0) := ⟨by decide, by decide, none, rfl, RowO.nil⟩
theorem acts_run {base f : Nat} {h : AH} {p : Nat → Prop} {R : List Tm} {v : Option Addr} {x : In} {next : Int} (hR : TsR h p (f + 1) R v) (hn : R.length = 8) (hx : InB x) (hB : ∀ t ∈ R, TmB (f + 1) t) (hb : base ≤ h.length) (hp : ∀ b, p b → b < h.length) :
  ∃ k n s a m h', run (Et base) 98 [.agg (inV x).toArray, .slice v R.length R.length, .int .i64 next] h = some (.tuple #[.agg (actV (actsF x R next).1.kind (actsF x R next).1.pid (actsF x R next).1.pc k n s a m).toArray, .bool (actsF x R next).2], h') ∧
   TmG base (f + 1) (iS h.length h'.length) h' (actsF x R next).1.t (termV k n s a m) ∧ KB NoB h h' := by
 obtain ⟨⟨a0, a7⟩, ⟨b0, b7⟩, _, _, _, _, _⟩ := hx
 suffices w : Wp (run (Et base) 98 [.agg (inV x).toArray, .slice v R.length R.length, .int .i64 next] h) fun r => ∃ k n s a m, r.1 = .tuple #[.agg (actV (actsF x R next).1.kind (actsF x R next).1.pid (actsF x R next).1.pc k n s a m).toArray, .bool (actsF x R next).2] ∧
   TmG base (f + 1) (iS h.length r.2.length) r.2 (actsF x R next).1.t (termV k n s a m) ∧ KB NoB h r.2 by
  obtain ⟨⟨u, h'⟩, e, k, n, s, a, m, rfl, q⟩ := w
  exact ⟨k, n, s, a, m, h', e, q⟩
 refine W.of (fun r hx => Am.r98 hx) ?_
 refine W.box hb fun h1 o1 k1 q1 => W.box (base := base) (by omega) fun h2 o2 k2 q2 => W.bI ((o1.keepN k2).at0 (i := 1) rfl) (W.ifT ⟨a0, by omega⟩ ?_)
 have o1 := o1.keepN k2
 have k02 := kN k1 k2
 have ha : x.a.toNat < R.length := by omega
 have eA := rg_eq (R := R) a0 ha
 obtain ⟨ad, k, n, s, a2, m, rfl, g0, g1, g2, g3, hm⟩ := (hR.keep k02 fun _ _ h => h).getT ha
 refine W.bs rfl (W.bI g0 (W.bI g1 (W.bT g2 (W.bS g3 (W.nw (base := base) (by omega) rfl fun h3 o3 k3 q3 => ?_)))))
 have o1 := o1.keepN k3
 have o2 := o2.keepN k3
 have k03 := kN k02 k3
 have hkd : (rg R x.a).kd = k ∧ (rg R x.a).nm = n := by
  rw [eA]
  generalize R[x.a.toNat] = t at hm
  obtain ⟨k', n', s', l'⟩ := t
  obtain ⟨_, ecs, _⟩ := hm.parts
  injection ecs with e0 ecs
  injection ecs with e1 _
  injection e0 with _ e0
  injection e1 with _ e1
  exact ⟨e0.symm, e1.symm⟩
 have fin : ∀ {h4 h5 : AH} {kd pid pc k' n' : Int} {s' : ByteArray} {a' : Option Addr} {m' : Nat} {t : Tm} (k34 : KB NoB h3 h4) (o5 : Own base 70 h5 (at0 h1.length) (setAt (actV 0 0 0 0 0 ⟨#[]⟩ none 0) 0 (actV kd pid pc k' n' s' a' m'))) (k45 : KB (· = h1.length) h4 h5) (l45 : h5.length = h4.length) (ht : TmG base (f + 1) (iS h3.length h4.length) h4 t (termV k' n' s' a' m')),
   Own base 70 h5 (at0 h1.length) (actV kd pid pc k' n' s' a' m') ∧ TmG base (f + 1) (iS h.length h5.length) h5 t (termV k' n' s' a' m') ∧ KB NoB h h5 := by
  intro h4 h5 kd pid pc k' n' s' a' m' t k34 o5 k45 l45 ht
  have n34 := k34.1
  have hz : setAt (actV 0 0 0 0 0 ⟨#[]⟩ none 0) 0 (actV kd pid pc k' n' s' a' m') = actV kd pid pc k' n' s' a' m' := rfl
  rw [hz] at o5
  exact ⟨o5, TmG.mo _ _ _ _ _ _ _ (fun b hb => by constructor <;> omega) (TmG.kp _ _ _ _ _ _ _ _ k45 (fun b hb hk => by omega) ht), kFresh (kN k03 k34) k45 fun i hi => by omega⟩
 have zl : (actV 0 0 0 0 0 ⟨#[]⟩ none 0).length = 7 := rfl
 unfold actsF
 rw [hkd.1, hkd.2]
 refine W.bI (o1.at0 (i := 0) rfl) (W.ite (fun c => ?_) fun c => ?_)
 ·rw [if_pos c]
  have c' := beq_iff_eq.1 c
  have hb7 : x.b ≤ 7 := b7.resolve_left (by omega)
  have hbl : x.b.toNat < R.length := by omega
  obtain ⟨ad2, kb, nb, sb, ab, mb, e2, y0, y1, y2, y3, hmb⟩ := ((hR.keep k02 fun _ _ h => h).keep k3 fun _ _ h => h).getT hbl
  injection e2 with e2
  subst e2
  refine W.bI (o3.at0 (i := 1) rfl) (W.bI (o1.at0 (i := 2) rfl) (W.ifT ⟨b0, by omega⟩ (W.bs rfl (W.bI y0 (W.bI y1 (W.bT y2 (W.bS y3 ?_)))))))
  obtain ⟨cs4, h4, e4, t4, k4⟩ := copyTermG_run (base := base) (f + 1) h3 p _ _ hmb (hB _ (List.getElem_mem hbl)) (by omega) (fun b hb => by have := hp b hb; omega)
  obtain ⟨k', n', s', a', m', rfl⟩ := t4.form
  have n4 := k4.1
  refine W.bs e4 (W.g4 (W.gt (same_keep k4 (o3.at0 (i := 1) rfl)) (W.gt (same_keep k4 (o3.at0 (i := 0) rfl)) (W.bI ((o3.keepN k4).at0 (i := 0) rfl) (W.wr0 (o2.keepN k4) (by rw [zl]; simp) (by simp) fun h5 o5 k5 l5 => ?_)))))
  obtain ⟨o5, t5, k05⟩ := fin k4 o5 k5 l5 t4
  have o35 := (o3.keepN k4).keepB k5 fun i hi => by rw [blk_at0] at hi; omega
  refine W.gt (fun ad e => ?_) (q7 o5 (W.ret ⟨_, _, _, _, _, rfl, ?_, k05⟩))
  ·injection e with e
   subst e
   have hne : ¬ (h2.length = h1.length) := by omega
   have hg := k5.2 h2.length (show h2.length < _ by first | (show h2.length < h4.length; omega) | (show h2.length < h3.length; omega)) hne
   exact ⟨fun j _ => by unfold Am.cell; simp only [hg], by simp only [hg]⟩
  ·rw [rg_eq b0 hbl]; exact t5
 rw [if_neg c]
 refine W.ite (fun c => ?_) fun c => ?_
 ·rw [if_pos c]
  have c' := beq_iff_eq.1 c
  have hb7 : x.b ≤ 7 := b7.resolve_left (by omega)
  have hbl : x.b.toNat < R.length := by omega
  obtain ⟨ad2, kb, nb, sb, ab, mb, e2, y0, y1, y2, y3, hmb⟩ := ((hR.keep k02 fun _ _ h => h).keep k3 fun _ _ h => h).getT hbl
  injection e2 with e2
  subst e2
  refine W.bI (o1.at0 (i := 4) rfl) (W.bI (o1.at0 (i := 2) rfl) (W.ifT ⟨b0, by omega⟩ (W.bs rfl (W.bI y0 (W.bI y1 (W.bT y2 (W.bS y3 ?_)))))))
  obtain ⟨cs4, h4, e4, t4, k4⟩ := copyTermG_run (base := base) (f + 1) h3 p _ _ hmb (hB _ (List.getElem_mem hbl)) (by omega) (fun b hb => by have := hp b hb; omega)
  obtain ⟨k', n', s', a', m', rfl⟩ := t4.form
  have n4 := k4.1
  refine W.bs e4 (W.g4 (W.gt (same_keep k4 (o1.at0 (i := 4) rfl)) (W.wr0 (o2.keepN k4) (by rw [zl]; simp) (by simp) fun h5 o5 k5 l5 => ?_)))
  obtain ⟨o5, t5, k05⟩ := fin k4 o5 k5 l5 t4
  refine q7 o5 (W.ret ⟨_, _, _, _, _, rfl, ?_, k05⟩)
  rw [rg_eq b0 hbl]; exact t5
 rw [if_neg c]
 have hm3 := TmR.keep k3 (fun _ _ h => h) _ _ _ hm
 refine W.ite (fun c => ?_) fun c => ?_
 ·rw [if_pos c]
  obtain ⟨cs4, h4, e4, t4, k4⟩ := copyTermG_run (base := base) (f + 1) h3 p _ _ hm3 (hB _ (List.getElem_mem ha)) (by omega) (fun b hb => by have := hp b hb; omega)
  obtain ⟨k', n', s', a', m', rfl⟩ := t4.form
  have n4 := k4.1
  refine W.q4 o3 (W.bs e4 (W.g4 (W.wr0 (o2.keepN k4) (by rw [zl]; simp) (by simp) fun h5 o5 k5 l5 => ?_)))
  obtain ⟨o5, t5, k05⟩ := fin k4 o5 k5 l5 t4
  refine q7 o5 (W.ret ⟨_, _, _, _, _, rfl, ?_, k05⟩)
  rw [eA]; exact t5
 rw [if_neg c]
 refine W.ite (fun c => ?_) fun c => ?_
 ·rw [if_pos c]
  refine W.bI (o3.at0 (i := 1) rfl) (W.bI (o3.at0 (i := 0) rfl) (W.wr0 o2 (by rw [zl]; simp) (by simp) fun h5 o5 k5 l5 => ?_))
  obtain ⟨o5, t5, k05⟩ := fin (KB.refl _ _) o5 k5 l5 tmZ_G
  refine W.gt (fun ad e => ?_) (q7 o5 (W.ret ⟨_, _, _, _, _, rfl, t5, k05⟩))
  injection e with e
  subst e
  have hne : ¬ (h2.length = h1.length) := by omega
  have hg := k5.2 h2.length (show h2.length < _ by first | (show h2.length < h4.length; omega) | (show h2.length < h3.length; omega)) hne
  exact ⟨fun j _ => by unfold Am.cell; simp only [hg], by simp only [hg]⟩
 rw [if_neg c]
 refine W.ite (fun c => ?_) fun c => ?_
 ·rw [if_pos c]
  obtain ⟨cs4, h4, e4, t4, k4⟩ := copyTermG_run (base := base) (f + 1) h3 p _ _ hm3 (hB _ (List.getElem_mem ha)) (by omega) (fun b hb => by have := hp b hb; omega)
  obtain ⟨k', n', s', a', m', rfl⟩ := t4.form
  have n4 := k4.1
  refine W.q4 o3 (W.bs e4 (W.g4 (W.wr0 (o2.keepN k4) (by rw [zl]; simp) (by simp) fun h5 o5 k5 l5 => ?_)))
  obtain ⟨o5, t5, k05⟩ := fin k4 o5 k5 l5 t4
  refine q7 o5 (W.ret ⟨_, _, _, _, _, rfl, ?_, k05⟩)
  rw [eA]; exact t5
 rw [if_neg c]
 refine W.wr0 o2 (by rw [zl]; simp) (by simp) fun h5 o5 k5 l5 => ?_
 obtain ⟨o5, t5, k05⟩ := fin (KB.refl _ _) o5 k5 l5 tmZ_G
 exact q7 o5 (W.ret ⟨_, _, _, _, _, rfl, t5, k05⟩)
def flt : ByteArray := ⟨#[102, 97, 117, 108, 116]⟩
theorem fault_run {base : Nat} {h : AH} (hb : base ≤ h.length) : ∃ h', run (Et base) 99 [] h = some (.agg (actV 7 0 0 2 0 flt none 0).toArray, h') ∧ KB NoB h h' := by
 refine (Wp.run (P := fun h' => KB NoB h h') ?_)
 refine W.of (fun r hx => Am.r99 hx) ?_
 refine W.box hb fun h1 o1 k1 q1 => ?_
 obtain ⟨h2, e2, k2⟩ := atom_run (base := base) (h := h1) (w := flt) (by omega)
 refine W.bs e2 (W.g4 (W.wr0 (o1.keepN k2) (by simp) (by simp) fun h3 o3 k3 l3 => ?_))
 have hz : setAt (actV 0 0 0 0 0 ⟨#[]⟩ none 0) 0 (actV 7 0 0 2 0 flt none 0) = actV 7 0 0 2 0 flt none 0 := rfl
 rw [hz] at o3
 exact q7 o3 (W.ret ⟨rfl, kFresh (kN k1 k2) k3 fun i hi => by omega⟩)
theorem makes_run {base : Nat} {h : AH} {op : Int} : run (Et base) 100 [.int .i64 op] h = some (.bool (makesF op), h) := by
 have w : Wp (run (Et base) 100 [.int .i64 op] h) fun r => r = (.bool (makesF op), h) := by
  refine W.of (fun r hx => Am.r100 hx) ?_
  refine W.joinP (fun q => q = ([some (.bool (!makesF op))], h)) ?_ fun q hq => ?_
  ·unfold makesF
   rw [Bool.not_not]
   refine W.ite (fun c => ?_) fun c => ?_
   ·rw [if_pos c]; exact W.inl (by rw [c])
   rw [if_neg c]
   refine W.ite (fun c => ?_) fun c => ?_
   ·rw [if_pos c]; exact W.inl (by rw [c])
   rw [if_neg c]
   refine W.ite (fun c => ?_) fun c => ?_
   ·rw [if_pos c]; exact W.inl (by rw [c])
   rw [if_neg c]
   refine W.ite (fun c => ?_) fun c => ?_
   ·rw [if_pos c]; exact W.inl (by rw [c])
   rw [if_neg c]
   refine W.ite (fun c => ?_) fun c => ?_
   ·rw [if_pos c]; exact W.inl (by rw [c])
   rw [if_neg c]
   refine W.ite (fun c => ?_) fun c => ?_
   ·rw [if_pos c]; exact W.inl (by rw [c])
   rw [if_neg c]
   exact W.inl rfl
  ·subst hq
   refine W.bB rfl (W.ite (fun c => ?_) fun c => ?_)
   ·exact W.ret (by simp at c; rw [c])
   ·exact W.ret (by simp at c; rw [c])
 obtain ⟨r, e, rfl⟩ := w
 exact e
theorem jumps_run {base f : Nat} {h : AH} {p : Nat → Prop} {R : List Tm} {v : Option Addr} {x : In} (hR : TsR h p f R v) (hn : R.length = 8) (hx : InB x) (hb : base ≤ h.length) :
  ∃ h', run (Et base) 104 [.agg (inV x).toArray, .slice v R.length R.length] h = some (.bool (jumpsF f x R), h') ∧ KB NoB h h' := by
 obtain ⟨⟨a0, a7⟩, ⟨b0, b7⟩, _, _, _, _, _⟩ := hx
 refine (Wp.run (P := fun h' => KB NoB h h') ?_)
 refine W.of (fun r hx => Am.r104 hx) ?_
 refine W.box hb fun h1 o1 k1 q1 => W.bI (o1.at0 (i := 0) rfl) ?_
 have ha : x.a.toNat < R.length := by omega
 have eA := rg_eq (R := R) a0 ha
 have hR1 := hR.keep k1 fun _ _ h => h
 obtain ⟨ad, k, n, s, a2, m, rfl, g0, g1, g2, g3, hm⟩ := hR1.getT ha
 unfold jumpsF
 refine W.ite (fun c => ?_) fun c => ?_
 ·rw [if_pos c]
  have c' := beq_iff_eq.1 c
  have hb7 : x.b ≤ 7 := b7.resolve_left (by omega)
  have hbl : x.b.toNat < R.length := by omega
  obtain ⟨ad2, kb, nb, sb, ab, mb, e2, y0, y1, y2, y3, hmb⟩ := hR1.getT hbl
  injection e2 with e2
  subst e2
  obtain ⟨h2, e2, k2⟩ := implSame_run (base := base) f f h1 p p _ _ _ _ hm hmb (by omega)
  refine W.bI (o1.at0 (i := 1) rfl) (W.ifT ⟨a0, by omega⟩ (W.bs rfl (W.bI g0 (W.bI g1 (W.bT g2 (W.bS g3 ?_))))))
  refine W.bI (o1.at0 (i := 2) rfl) (W.ifT ⟨b0, by omega⟩ (W.bs rfl (W.bI y0 (W.bI y1 (W.bT y2 (W.bS y3 (W.bs e2 (W.bB rfl (W.ret ⟨?_, kN k1 k2⟩)))))))))
  rw [eA, rg_eq b0 hbl]
 rw [if_neg c]
 refine W.ite (fun c => ?_) fun c => ?_
 ·rw [if_pos c]
  refine W.bI (o1.at0 (i := 1) rfl) (W.ifT ⟨a0, by omega⟩ (W.bs rfl (W.bI g0 (W.bI (o1.at0 (i := 2) rfl) (W.ret ⟨?_, k1⟩)))))
  rw [eA]
  generalize R[x.a.toNat] = t at hm
  cases f with
  | zero => exact hm.elim
  | succ f =>
   obtain ⟨k', n', s', l'⟩ := t
   obtain ⟨_, ecs, _⟩ := hm.parts
   injection ecs with e0 _
   injection e0 with _ e0
   subst e0
   rfl
 rw [if_neg c]
 exact W.bI (o1.at0 (i := 0) rfl) (W.ret ⟨rfl, k1⟩)
end Go.Proofs.Ytjmkbglnjklbcaa.Am
set_option linter.unusedSimpArgs false
set_option linter.unusedVariables false
namespace Go.Proofs.Ytjmkbglnjklbcaa.Am
open Go Go.RowKit
theorem TmG.parts {base f : Nat} {S : Fp} {h : AH} {t : Tm} {k n : Int} {s : ByteArray} {a : Option Addr} {m : Nat} (x : TmG base (f + 1) S h t (termV k n s a m)) : ∃ l, t = .mk k n s l ∧ m = l.length ∧ s.size ≤ maxLen ∧ l.length ≤ maxLen ∧ RowO base 39 4 (TmG base f) S h l a := by
 obtain ⟨k', n', s', l⟩ := t
 obtain ⟨h1, h2, a', ecs, r⟩ := x
 injection ecs with q0 ecs
 injection ecs with q1 ecs
 injection ecs with q2 ecs
 injection ecs with q3 _
 injection q0 with _ q0; injection q1 with _ q1; injection q2 with q2; injection q3 with q3 q4 _
 subst q0; subst q1; subst q2; subst q3
 exact ⟨l, rfl, q4, h1, h2, r⟩
theorem tsR_nil {h : AH} {p : Nat → Prop} {f : Nat} {a : Option Addr} : TsR h p f [] a := ⟨[], .inl rfl, .inl rfl, rfl, fun i t hi => by simp at hi⟩
theorem tmR_mk {h : AH} {p : Nat → Prop} {f : Nat} {k n : Int} {s : ByteArray} (hs : s.size ≤ maxLen) : TmR h p (f + 1) (.mk k n s []) (termV k n s none 0) := TmR.of (l := []) tsR_nil hs (by decide)
theorem made_run {base f : Nat} {h : AH} {S : Fp} {R : List Tm} {v : Option Addr} {x : In} {pid next : Int} (hR : RowO base 39 4 (TmG base (f + 1)) S h R v) (hn : R.length = 8) (hx : InB x) (hxb : x.b ≤ 7) (hxs : x.s.size ≤ 1048576) (hB : ∀ t ∈ R, TmB (f + 1) t) (hS : ∀ b, S b → b < h.length) (hb : base ≤ h.length) :
  Wp (run (Et base) 101 [.agg (inV x).toArray, .slice v R.length R.length, .int .i64 pid, .int .i64 next] h) fun r => ∃ k n s a m b, r.1 = .tuple #[.agg (termV k n s a m).toArray, .bool b] ∧ KB NoB h r.2 ∧ match madeF x R pid next with | none => b = false | some t => b = true ∧ TmR r.2 (fun b => S b ∨ h.length ≤ b) (f + 2) t (termV k n s a m) := by
 obtain ⟨⟨a0, a7⟩, ⟨b0, _⟩, ⟨c0, c7⟩, hx4, hx6, hop0, hop1⟩ := hx
 refine W.of (fun r hx => Am.r101 hx) ?_
 refine W.box hb fun h1 o1 k1 q1 => W.box (base := base) (by omega) fun h2 oZ k2 q2 => W.bI ((o1.keepN k2).at0 (i := 2) rfl) (W.ifT ⟨b0, by omega⟩ ?_)
 have o1 := o1.keepN k2
 have k02 := kN k1 k2
 have hbl : x.b.toNat < R.length := by omega
 have hcl : x.c.toNat < R.length := by omega
 have hR2 := hR.keep (TmG.kp _ _) k02 fun _ _ h => h
 obtain ⟨ad, kb, nb, sb, ab, mb, CB, rfl, hbk, g0, g1, g2, g3, hmB, hCB⟩ := hR2.getG hbl
 obtain ⟨ad2, kc, nc, sc, ac, mc, CC, e2, _, y0, y1, y2, y3, hmC, hCC⟩ := hR2.getG hcl
 injection e2 with e2
 subst e2
 have hbk0 : ad.block < h.length := by
  obtain ⟨vs, T, w1, w2, w3, _⟩ := hR
  exact hS _ (w3 _ ⟨ad, rfl, rfl⟩).1
 have eB := rg_eq (R := R) b0 hbl
 have eC := rg_eq (R := R) c0 hcl
 obtain ⟨lb, eB', rfl, hsb, hlb, rowB⟩ := hmB.parts
 obtain ⟨lc, eC', rfl, hsc, hlc, rowC⟩ := hmC.parts
 rw [eB'] at eB
 rw [eC'] at eC
 have hBb := hB _ (List.getElem_mem hbl)
 have hBc := hB _ (List.getElem_mem hcl)
 rw [eB'] at hBb
 rw [eC'] at hBc
 refine W.bs rfl (W.bI g0 (W.bI g1 (W.bT g2 (W.bS g3 (W.bI (o1.at0 (i := 3) rfl) (W.ifT ⟨c0, by omega⟩ (W.bs rfl (W.bI y0 (W.bI y1 (W.bT y2 (W.bS y3 ?_)))))))))))
 refine W.gt (ne_A (by omega)) (W.gt (ne_A (by omega)) (W.gt (ne_A (by omega)) (W.gt (ne_A (by omega)) (W.box (base := base) (by omega) fun h3 oB k3 q3 => ?_))))
 refine W.gt (ne_A (by omega)) (W.gt (ne_A (by omega)) (W.gt (ne_A (by omega)) (W.gt (ne_A (by omega)) (W.box (base := base) (by omega) fun h4 oC k4 q4 => ?_))))
 refine W.wr0 (oB.keepN k4) (by simp) (by simp) fun h5 oB k5 l5 => W.gt (same_KB k5 (by omega) (by omega)) (W.gt (same_KB k5 (by omega) (by omega)) (W.wr0 (oC.keepB k5 fun i hi => by rw [blk_at0] at hi; omega) (by simp) (by simp) fun h6 oC k6 l6 => ?_))
 have zB : setAt (termV 0 0 ⟨#[]⟩ none 0) 0 (termV kb nb sb ab lb.length) = termV kb nb sb ab lb.length := rfl
 have zC : setAt (termV 0 0 ⟨#[]⟩ none 0) 0 (termV kc nc sc ac lc.length) = termV kc nc sc ac lc.length := rfl
 rw [zB] at oB
 rw [zC] at oC
 have oB := oB.keepB k6 fun i hi => by rw [blk_at0] at hi; omega
 have k04 := kN (kN k02 k3) k4
 have k06 : KB NoB h h6 := kFresh (kFresh k04 k5 fun i hi => by omega) k6 fun i hi => by omega
 have k26 : KB NoB h2 h6 := kFresh (kFresh (kN k3 k4) k5 fun i hi => by omega) k6 fun i hi => by omega
 have o1 := o1.keepN k26
 have oZ := oZ.keepN k26
 have hR6 := hR.keep (TmG.kp _ _) k06 fun _ _ h => h
 have rowB := rowB.keep (TmG.kp _ _) k26 fun _ _ h => h
 have rowC := rowC.keep (TmG.kp _ _) k26 fun _ _ h => h
 have hSB : ∀ b, CB b → S b ∨ h6.length ≤ b := fun b hb => .inl (hCB b hb)
 have hSC : ∀ b, CC b → S b ∨ h6.length ≤ b := fun b hb => .inl (hCC b hb)
 have tB : TmR h6 (fun b => S b ∨ h6.length ≤ b) (f + 1) (.mk kb nb sb lb) (termV kb nb sb ab lb.length) := TmR.of (rowB.tsG.mono hSB) hsb hlb
 have n6 : h6.length = h4.length := l6.trans l5
 have upP : ∀ {y : AH} {g : Nat} {t : Tm} {cs : List Value}, g ≤ f + 2 → TmR y (fun b => S b ∨ h6.length ≤ b) g t cs → TmR y (fun b => S b ∨ h.length ≤ b) (f + 2) t cs := fun hg z => (z.mono (fun b hb => hb.imp id fun hb => by omega) _ _ _).le hg
 have nS : ∀ b, (S b ∨ h6.length ≤ b) → ¬ (b = h1.length) := fun b hb e => by
  rcases hb with hb | hb
  ·have := hS b hb
   omega
  ·omega
 have fin : ∀ {h7 : AH} {k' n' : Int} {s' : ByteArray} {a' : Option Addr} {m' g : Nat} {t : Tm} {b : Bool} (k67 : KB NoB h6 h7) (hg : g ≤ f + 2) (ht : TmR h7 (fun b => S b ∨ h6.length ≤ b) g t (termV k' n' s' a' m')) (hm : madeF x R pid next = some t),
   Wp ((Am.wr base h7 h1.length 0 (termV k' n' s' a' m')).bind fun h8 => ((Am.cell h8 h1.length 0).bind (getI .i64)).bind fun n1 => ((Am.cell h8 h1.length 1).bind (getI .i64)).bind fun n2 => ((Am.cell h8 h1.length 2).bind getStr).bind fun s3 => ((Am.cell h8 h1.length 3).bind getS).bind fun l4 => some ((Value.tuple #[(.agg #[(.int .i64 n1), (.int .i64 n2), (.string s3), (.slice l4.1 l4.2 l4.2)]), (.bool true)]), h8))
    fun (r : Value × AH) => ∃ k n s a m b, r.1 = .tuple #[.agg (termV k n s a m).toArray, .bool b] ∧ KB NoB h r.2 ∧ match madeF x R pid next with | none => b = false | some t => b = true ∧ TmR r.2 (fun b => S b ∨ h.length ≤ b) (f + 2) t (termV k n s a m) := by
  intro h7 k' n' s' a' m' g t b k67 hg ht hm
  have n67 := k67.1
  refine W.wr0 (oZ.keepN k67) (by simp) (by simp) fun h8 o8 k8 l8 => ?_
  have hz : setAt (termV 0 0 ⟨#[]⟩ none 0) 0 (termV k' n' s' a' m') = termV k' n' s' a' m' := rfl
  rw [hz] at o8
  refine W.q4 o8 (W.ret ⟨_, _, _, _, _, _, rfl, kFresh (kN k06 k67) k8 fun i hi => by omega, ?_⟩)
  rw [hm]
  exact ⟨rfl, upP hg (TmR.keep k8 nS _ _ _ ht)⟩
 have bad : ∀ {b : Bool} (hm : madeF x R pid next = none),
   Wp ((Am.wr base h6 h1.length 0 (termV 0 0 ⟨#[]⟩ none 0)).bind fun h8 => ((Am.cell h8 h1.length 0).bind (getI .i64)).bind fun n1 => ((Am.cell h8 h1.length 1).bind (getI .i64)).bind fun n2 => ((Am.cell h8 h1.length 2).bind getStr).bind fun s3 => ((Am.cell h8 h1.length 3).bind getS).bind fun l4 => some ((Value.tuple #[(.agg #[(.int .i64 n1), (.int .i64 n2), (.string s3), (.slice l4.1 l4.2 l4.2)]), (.bool false)]), h8))
    fun (r : Value × AH) => ∃ k n s a m b, r.1 = .tuple #[.agg (termV k n s a m).toArray, .bool b] ∧ KB NoB h r.2 ∧ match madeF x R pid next with | none => b = false | some t => b = true ∧ TmR r.2 (fun b => S b ∨ h.length ≤ b) (f + 2) t (termV k n s a m) := by
  intro b hm
  refine W.wr0 oZ (by simp) (by simp) fun h8 o8 k8 l8 => ?_
  have hz : setAt (termV 0 0 ⟨#[]⟩ none 0) 0 (termV 0 0 ⟨#[]⟩ none 0) = termV 0 0 ⟨#[]⟩ none 0 := rfl
  rw [hz] at o8
  refine W.q4 o8 (W.ret ⟨_, _, _, _, _, _, rfl, kFresh k06 k8 fun i hi => by omega, ?_⟩)
  rw [hm]
 refine W.bI (o1.at0 (i := 0) rfl) (W.ite (fun c => ?_) fun c1 => ?_)
 ·exact W.bI (o1.at0 (i := 4) rfl) (fin (b := true) (KB.refl _ _) (show 1 ≤ f + 2 by omega) (tmR_mk (by decide)) (by unfold madeF; rw [if_pos c]))
 refine W.ite (fun c => ?_) fun c2 => ?_
 ·obtain ⟨h7, e7, k7⟩ := atom_run (base := base) (h := h6) (w := x.s) (by omega)
  exact W.bT (o1.at0 (i := 5) rfl) (W.bs e7 (W.g4 (fin (b := true) k7 (show 1 ≤ f + 2 by omega) (tmR_mk (by simp only [maxLen]; omega)) (by unfold madeF; rw [if_neg c1, if_pos c]))))
 refine W.ite (fun c => ?_) fun c3 => ?_
 ·exact fin (b := true) (KB.refl _ _) (show 1 ≤ f + 2 by omega) (tmR_mk (by decide)) (by unfold madeF; rw [if_neg c1, if_neg c2, if_pos c])
 refine W.ite (fun c => ?_) fun c4 => ?_
 ·exact W.q4 oB (fin (b := true) (KB.refl _ _) (show f + 1 ≤ f + 2 by omega) tB (by unfold madeF; rw [if_neg c1, if_neg c2, if_neg c3, if_pos c, eB]))
 refine W.ite (fun c => ?_) fun c5 => ?_
 ·have h4' := hx4 (beq_iff_eq.1 c)
  have hw : IntKind.wrap .i64 (x.b + x.n) = x.b + x.n := w64i (by omega) (by omega)
  refine W.bI (o1.at0 (i := 2) rfl) (W.bI (o1.at0 (i := 2) rfl) (W.bI (o1.at0 (i := 4) rfl) ?_))
  rw [hw]
  refine W.ifT ⟨b0, by omega, by omega, hR6.tyOk _⟩ ?_
  have em : (x.b + x.n).toNat - x.b.toNat = ((R.drop x.b.toNat).take x.n.toNat).length := by simp; omega
  rw [em]
  exact fin (b := true) (KB.refl _ _) (show f + 1 + 1 ≤ f + 2 by omega) (TmR.of ((hR6.tsG.part (by omega)).mono fun b hb => .inl hb) (by decide) (by simp only [maxLen]; simp; omega)) (by unfold madeF; rw [if_neg c1, if_neg c2, if_neg c3, if_neg c4, if_pos c])
 refine W.ite (fun c => ?_) fun c6 => ?_
 ·refine W.q4 oB (W.box (base := base) (by omega) fun h7 o7 k7 q7 => W.gt (ne_A (by omega)) (W.bS ((oC.keepN k7).at0 (i := 3) rfl) ?_))
  obtain ⟨vsc, er, evl, hvs⟩ := (rowC.tsG.keep k7 fun _ _ h => h).raw
  obtain ⟨hc1, hc2, _⟩ := hBc
  obtain ⟨a8, h8, e8, o8, k8, d8⟩ := Own.app o7 (n := 1) (m := lc.length) (sz := 4) (bytes := 56) (by simp) (by decide) er (by omega) (by omega) (by omega) evl
  have k68 : KB NoB h6 h8 := kFresh k7 k8 fun i hi => by rw [blk_at0] at hi; omega
  have n68 := k68.1
  have b8 : ∀ b, blk a8 b → h6.length ≤ b := fun b hb => by
   rcases d8 with ⟨_, e, _⟩ | d8
   ·rw [e, blk_at0] at hb; omega
   ·have := d8 b hb; omega
  refine W.bs e8 (W.bS rfl (W.gt (ne_A (by omega)) (W.gt (same_KB k8 (by omega) (fun hh => by rw [blk_at0] at hh; omega)) (W.bI ((oC.keepN k68).at0 (i := 0) rfl) (W.wr0 (oZ.keepN k68) (by simp) (by simp) fun h9 o9 k9 l9 => W.gt (same_KB k9 (show h3.length < h8.length by omega) (by omega)) ?_)))))
  have hz : setAt (termV 0 0 ⟨#[]⟩ none 0) 0 (termV 5 0 ⟨#[]⟩ a8 (1 + lc.length)) = termV 5 0 ⟨#[]⟩ a8 (1 + lc.length) := rfl
  rw [hz] at o9
  refine W.q4 o9 (W.ret ⟨_, _, _, _, _, _, rfl, kFresh (kN k06 k68) k9 fun i hi => by omega, ?_⟩)
  have em : madeF x R pid next = (if (kc == (5 : Int)) = true then some (.mk 5 0 ⟨#[]⟩ (.mk kb nb sb lb :: lc)) else none) := by
   unfold madeF
   rw [if_neg c1, if_neg c2, if_neg c3, if_neg c4, if_neg c5, if_pos c, eB, eC]
   rfl
  rw [em]
  have row8 : TsR h8 (fun b => S b ∨ h6.length ≤ b) (f + 1) (.mk kb nb sb lb :: lc) a8 := by
   refine ⟨termV kb nb sb ab lb.length ++ vsc, o8.sl, .inr fun b hb => .inr (b8 b hb), by simp [evl]; omega, fun i t hi => ?_⟩
   cases i with
   | zero =>
    simp at hi
    subst hi
    have := TmR.keep k68 (fun _ _ h => h) _ _ _ tB
    simpa using this
   | succ i =>
    simp at hi
    have hm := hvs i t hi
    have e : ((termV kb nb sb ab lb.length ++ vsc).drop ((i + 1) * 4)).take 4 = (vsc.drop (i * 4)).take 4 := by
     rw [List.drop_append, List.drop_eq_nil_of_le (by simp; omega), List.nil_append]
     congr 2
     simp
     omega
    rw [e]
    exact (TmR.keep k8 (fun b hb hk => by
     rw [blk_at0] at hk
     have := hS b (hCC b hb)
     omega) _ _ _ hm |>.mono (fun b hb => hSC b hb) _ _ _).le (by omega)
  by_cases ck : (kc == (5 : Int)) = true
  ·rw [if_pos ck]
   refine ⟨ck, ?_⟩
   rw [show 1 + lc.length = (Tm.mk kb nb sb lb :: lc).length from by simp; omega]
   exact upP (show f + 1 + 1 ≤ f + 2 by omega) (TmR.of (row8.keep k9 nS) (by decide) (by simp only [maxLen]; simp; omega))
  ·rw [if_neg ck]
   simpa using ck
 refine W.ite (fun c => ?_) fun c7 => ?_
 ·have em : madeF x R pid next = (if (if (kb != (4 : Int)) = true then true else decide (x.n ≥ (lb.length : Int))) = true then none else some (lb.getD x.n.toNat tmZ)) := by
   unfold madeF
   rw [if_neg c1, if_neg c2, if_neg c3, if_neg c4, if_neg c5, if_neg c6, if_pos c, eB]
   rfl
  refine W.joinP (fun q => q = ([some (.pointer (at0 h.length)), some (.pointer (at0 h1.length)), some (.pointer (at0 h2.length)), some (.bool (if (kb != (4 : Int)) = true then true else decide (x.n ≥ (lb.length : Int))))], h6)) ?_ fun q hq => ?_
  ·refine W.bI (oB.at0 (i := 0) rfl) (W.ite (fun d => ?_) fun d => ?_)
   ·rw [if_pos d]; exact W.inl rfl
   ·rw [if_neg d]; exact W.bI (o1.at0 (i := 4) rfl) (W.bS (oB.at0 (i := 3) rfl) (W.inl rfl))
  subst hq
  refine W.bA rfl (W.bA rfl (W.bA rfl (W.bB rfl (W.ite (fun d => ?_) fun d => ?_))))
  ·exact bad (b := true) (by rw [em, if_pos d])
  ·have d4 : ¬ (kb != (4 : Int)) = true := fun e => d (by rw [if_pos e])
   have dn : x.n < (lb.length : Int) := by
    rw [if_neg d4] at d
    simpa using d
   have hn0 := hx6 (beq_iff_eq.1 c)
   have hln : x.n.toNat < lb.length := by omega
   obtain ⟨ad3, k', n', s', a', m', C', rfl, _, w0, w1, w2, w3, hmE, hCE⟩ := rowB.getG hln
   refine W.bS (oB.at0 (i := 3) rfl) (W.bI (o1.at0 (i := 4) rfl) (W.ifT ⟨hn0, dn⟩ (W.bs rfl (W.bI w0 (W.bI w1 (W.bT w2 (W.bS w3 ?_)))))))
   exact fin (b := true) (KB.refl _ _) (show f ≤ f + 2 by omega) (hmE.tmR.mono (fun b hb => hSB b (hCE b hb)) _ _ _) (by rw [em, if_neg d]; simp [hln])
 refine W.joinP (fun q => q = ([some (.int .i64 pid), some (.int .i64 next), some (.pointer (at0 h.length)), some (.pointer (at0 h1.length)), some (.pointer (at0 h2.length)), some (.pointer (at0 h3.length)), some (.int .i64 x.op), some (.bool (if (x.op == (7 : Int)) = true then (x.op == (7 : Int)) else (x.op == (8 : Int))))], h6)) ?_ fun q hq => ?_
 ·refine W.ite (fun d => ?_) fun d => ?_
  ·rw [if_pos d]; exact W.inl rfl
  ·rw [if_neg d]; exact W.inl rfl
 subst hq
 refine W.bI rfl (W.bI rfl (W.bA rfl (W.bA rfl (W.bA rfl (W.bA rfl (W.bI rfl (W.bB rfl (W.ite (fun d => ?_) fun d => ?_))))))))
 ·refine W.joinP (fun q => q = ([some (.pointer (at0 h.length)), some (.pointer (at0 h1.length)), some (.pointer (at0 h2.length)), some (.bool (if (kb != (5 : Int)) = true then true else ((lb.length : Int) == (0 : Int))))], h6)) ?_ fun q hq => ?_
  ·refine W.bI (oB.at0 (i := 0) rfl) (W.ite (fun d => ?_) fun d => ?_)
   ·rw [if_pos d]; exact W.inl rfl
   ·rw [if_neg d]; exact W.bS (oB.at0 (i := 3) rfl) (W.inl rfl)
  subst hq
  have em : madeF x R pid next = if (x.op == (7 : Int)) = true then (if (if (kb != (5 : Int)) = true then true else ((lb.length : Int) == (0 : Int))) = true then none else some (lb.getD 0 tmZ)) else (if (if (kb != (5 : Int)) = true then true else ((lb.length : Int) == (0 : Int))) = true then none else some (.mk 5 0 ⟨#[]⟩ (lb.drop 1))) := by
   unfold madeF
   rw [if_neg c1, if_neg c2, if_neg c3, if_neg c4, if_neg c5, if_neg c6, if_neg c7, eB]
   by_cases c8 : (x.op == (7 : Int)) = true
   ·rw [if_pos c8, if_pos c8]; rfl
   ·rw [if_neg c8] at d
    rw [if_neg c8, if_neg c8, if_pos d]; rfl
  refine W.bA rfl (W.bA rfl (W.bA rfl (W.bB rfl (W.ite (fun d2 => ?_) fun d2 => ?_))))
  ·exact bad (b := true) (by rw [em, if_pos d2, if_pos d2]; split <;> rfl)
  ·rw [if_neg d2, if_neg d2] at em
   have d5 : ¬ (kb != (5 : Int)) = true := fun e => d2 (by rw [if_pos e])
   have dl : 0 < lb.length := by
    rw [if_neg d5] at d2
    have : ¬ ((lb.length : Int) = 0) := by simpa using d2
    omega
   refine W.bI (o1.at0 (i := 0) rfl) (W.ite (fun c8 => ?_) fun c8 => ?_)
   ·rw [if_pos c8] at em
    obtain ⟨ad3, k', n', s', a', m', C', rfl, _, w0, w1, w2, w3, hmE, hCE⟩ := rowB.getG dl
    refine W.bS (oB.at0 (i := 3) rfl) (W.ifT ⟨by decide, by omega⟩ (W.bs rfl (W.bI w0 (W.bI w1 (W.bT w2 (W.bS w3 ?_))))))
    exact fin (b := true) (KB.refl _ _) (show f ≤ f + 2 by omega) (hmE.tmR.mono (fun b hb => hSB b (hCE b hb)) _ _ _) (by rw [em]; simp [dl])
   ·rw [if_neg c8] at em
    refine W.bS (oB.at0 (i := 3) rfl) (W.ifT ⟨by decide, by omega, by omega, rowB.tyOk _⟩ ?_)
    have elen : Int.toNat (lb.length : Int) - Int.toNat (1 : Int) = ((lb.drop 1).take (lb.length - 1)).length := by simp
    have etk : (lb.drop 1).take (lb.length - 1) = lb.drop 1 := List.take_of_length_le (by simp)
    have hp := (rowB.tsG.part (i := 1) (n := lb.length - 1) (by omega)).mono hSB
    rw [etk] at elen hp
    simp only at elen ⊢
    rw [elen]
    simp only [maxLen] at hlb
    exact fin (b := true) (KB.refl _ _) (show f + 1 ≤ f + 2 by omega) (TmR.of hp (by decide) (by simp only [maxLen]; simp; omega)) em
 have c8 : ¬ (x.op == (7 : Int)) = true := fun e => d (by rw [if_pos e]; exact e)
 rw [if_neg c8] at d
 refine W.ite (fun c => ?_) fun c10 => ?_
 ·have em : madeF x R pid next = (if (kb == (1 : Int)) = true then (if (kc == (1 : Int)) = true then some (.mk 1 (IntKind.wrap .i64 (nb + nc)) ⟨#[]⟩ []) else none) else none) := by
   unfold madeF
   rw [if_neg c1, if_neg c2, if_neg c3, if_neg c4, if_neg c5, if_neg c6, if_neg c7, if_neg c8, if_neg d, if_pos c, eB, eC]
   rfl
  refine W.bI (oB.at0 (i := 1) rfl) (W.bI (oC.at0 (i := 1) rfl) (W.bI (oB.at0 (i := 0) rfl) (W.ite (fun e1 => ?_) fun e1 => ?_)))
  ·refine W.bI (oC.at0 (i := 0) rfl) (W.wr0 oZ (by simp) (by simp) fun h8 o8 (k8 : KB (· = h1.length) h6 h8) (l8 : h8.length = h6.length) => W.gt (same_KB k8 (show h3.length < h6.length by omega) (show ¬ (h3.length = h1.length) by omega)) ?_)
   have hz : setAt (termV 0 0 ⟨#[]⟩ none 0) 0 (termV 1 (IntKind.wrap .i64 (nb + nc)) ⟨#[]⟩ none 0) = termV 1 (IntKind.wrap .i64 (nb + nc)) ⟨#[]⟩ none 0 := rfl
   rw [hz] at o8
   refine W.q4 o8 (W.ret ⟨_, _, _, _, _, _, rfl, kFresh k06 k8 fun i hi => by omega, ?_⟩)
   rw [em, if_pos e1]
   by_cases e3 : (kc == (1 : Int)) = true
   ·rw [if_pos e3]
    exact ⟨e3, tmR_mk (by decide)⟩
   ·rw [if_neg e3]
    simpa using e3
  ·refine W.wr0 oZ (by simp) (by simp) fun h8 o8 (k8 : KB (· = h1.length) h6 h8) (l8 : h8.length = h6.length) => ?_
   have hz : setAt (termV 0 0 ⟨#[]⟩ none 0) 0 (termV 1 (IntKind.wrap .i64 (nb + nc)) ⟨#[]⟩ none 0) = termV 1 (IntKind.wrap .i64 (nb + nc)) ⟨#[]⟩ none 0 := rfl
   rw [hz] at o8
   refine W.q4 o8 (W.ret ⟨_, _, _, _, _, _, rfl, kFresh k06 k8 fun i hi => by omega, ?_⟩)
   rw [em, if_neg e1]
 refine W.ite (fun c => ?_) fun c11 => ?_
 ·exact fin (b := true) (KB.refl _ _) (show 1 ≤ f + 2 by omega) (tmR_mk (by decide)) (by unfold madeF; rw [if_neg c1, if_neg c2, if_neg c3, if_neg c4, if_neg c5, if_neg c6, if_neg c7, if_neg c8, if_neg d, if_neg c10, if_pos c])
 ·exact fin (b := true) (KB.refl _ _) (show 1 ≤ f + 2 by omega) (tmR_mk (by decide)) (by unfold madeF; rw [if_neg c1, if_neg c2, if_neg c3, if_neg c4, if_neg c5, if_neg c6, if_neg c7, if_neg c8, if_neg d, if_neg c10, if_neg c11])
end Go.Proofs.Ytjmkbglnjklbcaa.Am
set_option linter.unusedSimpArgs false
set_option linter.unusedVariables false
namespace Go.Proofs.Ytjmkbglnjklbcaa.Am
open Go Go.RowKit
section
variable {α : Type} {w : Nat} {P : Fp → AH → α → List Value → Prop}
theorem RowO.imp {Q : Fp → AH → α → List Value → Prop} {base t : Nat} {S : Fp} {h : AH} {l : List α} {a : Option Addr} (hPQ : ∀ S h x cs, P S h x cs → Q S h x cs) (x : RowO base t w P S h l a) : RowO base t w Q S h l a := by
 obtain ⟨vs, T, x1, x2, x3, x4, x5⟩ := x
 exact ⟨vs, T, x1, x2, x3, x4, x5.imp hPQ⟩
theorem Own.wrA {base t : Nat} {h : AH} {a : Option Addr} {vs : List Value} (x : Own base t h a vs) {i : Nat} {new : List Value} (hi : i + new.length ≤ vs.length) (h0 : 0 < new.length) :
  ∃ ad h', a = some ad ∧ Am.wr base h ad.block (ad.off + i) new = some h' ∧ Own base t h' a (setAt vs i new) ∧ KB (blk a) h h' ∧ h'.length = h.length := by
 obtain ⟨ad, h', e, h1, h2, h3, h4⟩ := x.wr hi h0
 exact ⟨ad, h', e, h1, h2, h3, h4⟩
theorem RowO.put (kp : Kp P) {base t : Nat} {S C : Fp} {h : AH} {l : List α} {a : Option Addr} (x : RowO base t w P S h l a) {i : Nat} (hi : i < l.length) {y : α} {cs : List Value} (hy : P C h y cs) (hc : cs.length = w) (hw : 0 < w) (hC : ∀ b, C b → ¬ S b) :
  ∃ ad h', a = some ad ∧ Am.wr base h ad.block (ad.off + i * w) cs = some h' ∧ RowO base t w P (fun b => S b ∨ C b) h' (l.set i y) a ∧ KB (blk a) h h' ∧ h'.length = h.length := by
 obtain ⟨vs, T, x1, x2, x3, x4, C0, c1, c2, c3⟩ := x
 have hle := mul_le' (w := w) hi
 obtain ⟨ad, h', e, w1, w2, w3, w4⟩ := x1.wrA (i := i * w) (new := cs) (by omega) (by omega)
 refine ⟨ad, h', e, w1, ⟨setAt vs (i * w) cs, fun b => T b ∨ C b, w2, by simp [setAt]; omega, fun b hb => ⟨.inl (x3 b hb).1, fun hh => ?_⟩, fun b hb => hb.imp (x4 b) id, fun q b => if q = i then C b else C0 q b, fun q b hb => ?_, fun q j b hq hb hb' => ?_, fun q z hz => ?_⟩, w3, w4⟩
 ·rcases hh with hh | hh
  ·exact (x3 b hb).2 hh
  ·exact hC b hh (x3 b hb).1
 ·simp only at hb
  split at hb
  ·exact .inr hb
  ·exact .inl (c1 q b hb)
 ·simp only at hb hb'
  split at hb
  ·split at hb'
   ·omega
   ·exact hC b hb (x4 b (c1 j b hb'))
  ·split at hb'
   ·exact hC b hb' (x4 b (c1 q b hb))
   ·exact c2 q j b hq hb hb'
 ·by_cases eq : q = i
  ·subst eq
   rw [List.getElem?_set_self hi] at hz
   injection hz with hz
   subst hz
   have ee : (fun b => if q = q then C b else C0 q b) = C := by funext b; simp
   show P (fun b => if q = q then C b else C0 q b) h' y (chunk w q (setAt vs (q * w) cs))
   rw [ee, chunk_setAt_self hc (by omega)]
   exact kp _ _ _ _ _ _ w3 (fun b hb hk => hC b hb (x3 b hk).1) hy
  ·rw [List.getElem?_set_ne (by omega)] at hz
   have ee : (fun b => if q = i then C b else C0 q b) = C0 q := by funext b; simp [eq]
   show P (fun b => if q = i then C b else C0 q b) h' z (chunk w q (setAt vs (i * w) cs))
   rw [ee, chunk_setAt_other hc (by omega) eq]
   exact kp _ _ _ _ _ _ w3 (fun b hb hk => (x3 b hk).2 (c1 q b hb)) (c3 q z hz)
theorem RowO.uncons (kp : Mo P) {base t : Nat} {S : Fp} {h : AH} {x : α} {l : List α} {a : Option Addr} (r : RowO base t w P S h (x :: l) a) (hw : 0 < w) :
  ∃ C cs ad, P C h x cs ∧ a = some ad ∧ (∀ j v, cs[j]? = some v → Am.cell h ad.block (ad.off + j) = some v) ∧ (∀ b, C b → S b) ∧ (∀ b, blk a b → ¬ C b) ∧ RowO base t w P (fun b => S b ∧ ¬ C b) h l (shiftA a (1 * w)) := by
 obtain ⟨vs, T, x1, x2, x3, x4, C0, c1, c2, c3⟩ := r
 simp only [List.length_cons] at x2
 have x2 : vs.length = l.length * w + w := by rw [x2, Nat.add_one_mul]
 rcases x1 with ⟨_, e⟩ | ⟨ad, k, e1, e2, e3, e4, e5, e6⟩
 ·subst e; simp at x2; omega
 have bs : ∀ b, blk (shiftA a (1 * w)) b → blk a b := fun b hb => by
  obtain ⟨ad, e, hb⟩ := hb
  cases a with
  | none => cases e
  | some a0 =>
   injection e with e
   subst e
   exact ⟨a0, rfl, hb⟩
 refine ⟨C0 0, chunk w 0 vs, ad, c3 0 x rfl, e1, fun j v hj => ?_, fun b hb => x4 b (c1 0 b hb), fun b hb hc => (x3 b hb).2 (c1 0 b hc), vs.drop w, fun b => T b ∧ ¬ C0 0 b, ?_, by simp [x2], fun b hb => ?_, fun b hb => ⟨x4 b hb.1, hb.2⟩, fun q => C0 (q + 1), fun q b hb => ⟨c1 _ b hb, fun hh => c2 _ _ b (by omega) hb hh⟩, fun q j b hq hb => c2 _ _ b (by omega) hb, fun q z hz => ?_⟩
 ·have hj' : j < w := by have := (List.getElem?_eq_some_iff.1 hj).1; simp [chunk] at this; omega
  rw [chunk, List.getElem?_take_of_lt hj', List.getElem?_drop, Nat.zero_mul, Nat.zero_add] at hj
  have := e6 _ _ hj
  simp [Am.cell, e3, this]
 ·subst e1
  refine .inr ⟨_, k, rfl, e2, e3, e4, by simp [x2]; omega, fun i v hi => ?_⟩
  rw [List.getElem?_drop] at hi
  have := e6 _ _ hi
  simp only [Nat.one_mul, Nat.add_assoc]
  exact this
 ·have := x3 b (bs b hb)
  exact ⟨⟨this.1, fun hh => this.2 (c1 0 b hh)⟩, fun hh => this.2 hh.1⟩
 ·have := c3 (q + 1) z (by simpa using hz)
  have e : chunk w q (vs.drop w) = chunk w (q + 1) vs := by
   simp only [chunk, List.drop_drop]
   congr 2
   rw [Nat.add_one_mul]; omega
  rw [e]
  exact this
end
theorem TmG.le {base : Nat} : ∀ {f f' : Nat} (hf : f ≤ f') {S : Fp} {h : AH} {t : Tm} {cs : List Value}, TmG base f S h t cs → TmG base f' S h t cs
 | 0, _, _, _, _, _, _, x => x.elim
 | f + 1, 0, hf, _, _, _, _, _ => absurd hf (Nat.not_succ_le_zero _)
 | f + 1, f' + 1, hf, S, h, .mk k n s l, cs, x => by
  obtain ⟨h1, h2, a, e, r⟩ := x
  exact ⟨h1, h2, a, e, r.imp fun _ _ _ _ => TmG.le (Nat.le_of_succ_le_succ hf)⟩
theorem AcG.le {base f f' : Nat} (hf : f ≤ f') {S : Fp} {h : AH} {A : Ac} {cs : List Value} (x : AcG base f S h A cs) : AcG base f' S h A cs := by
 obtain ⟨a, b, g, S1, S2, S3, e, h1, h2, h3⟩ := x
 exact ⟨a, b, g, S1, S2, S3, e, h1.imp fun _ _ _ _ => TmG.le hf, h2.imp fun _ _ _ _ => TmG.le hf, h3⟩
theorem AcG.setPc {base f : Nat} {S : Fp} {h : AH} {A : Ac} {cs : List Value} (x : AcG base f S h A cs) (v : Int) : AcG base f S h ⟨A.pid, v, A.regs, A.box, A.links⟩ (setAt cs 1 [.int .i64 v]) := by
 obtain ⟨a, b, g, S1, S2, S3, rfl, h1⟩ := x
 exact ⟨a, b, g, S1, S2, S3, rfl, h1⟩
theorem AcG.setReg {base f : Nat} {S C : Fp} {h : AH} {A : Ac} {cs tcs : List Value} (x : AcG base f S h A cs) {i : Nat} (hi : i < A.regs.length) {t : Tm} (ht : TmG base f C h t tcs) (hC : ∀ b, C b → ¬ S b) :
  ∃ ad h', cs[2]? = some (.slice (some ad) A.regs.length A.regs.length) ∧ Am.wr base h ad.block (ad.off + i * 4) tcs = some h' ∧ AcG base f (fun b => S b ∨ C b) h' ⟨A.pid, A.pc, A.regs.set i t, A.box, A.links⟩ cs ∧ KB S h h' ∧ h'.length = h.length := by
 obtain ⟨a, b, g, S1, S2, S3, rfl, r1, r2, r3, hg, s1, s2, s3, d1, d2, d3⟩ := x
 obtain ⟨k, n, s, a', m, rfl⟩ := ht.form
 have hbA : ∀ b, blk a b → S1 b := by obtain ⟨vs, T, w1, w2, w3, _⟩ := r1; exact fun b hb => (w3 b hb).1
 obtain ⟨ad, h', rfl, w1, w2, w3, w4⟩ := r1.put (TmG.kp _ _) hi ht rfl (by decide) fun b hb hs => hC b hb (s1 b hs)
 refine ⟨ad, h', rfl, w1, ⟨some ad, b, g, fun b => S1 b ∨ C b, S2, S3, by simp, w2, r2.keep (TmG.kp _ _) w3 fun b hb hk => d1 b (hbA b hk) hb, r3.keep w3 fun b hb hk => d2 b (hbA b hk) (hg b hb), hg, fun b hb => hb.imp (s1 b) id, fun b hb => .inl (s2 b hb), fun b hb => .inl (s3 b hb), fun b hb hs => ?_, fun b hb hs => ?_, d3⟩, w3.mono fun b _ hb => s1 b (hbA b hb), w4⟩
 ·rcases hb with hb | hb
  ·exact d1 b hb hs
  ·exact hC b hb (s2 b hs)
 ·rcases hb with hb | hb
  ·exact d2 b hb hs
  ·exact hC b hb (s3 b hs)
theorem AcG.take {base f : Nat} {S : Fp} {h : AH} {A : Ac} {cs : List Value} (x : AcG base f S h A cs) {i : Nat} (hi : i < A.regs.length) {t : Tm} {B : List Tm} (eB : A.box = t :: B) :
  ∃ a b g k n s a' m h', cs = acV A.pid A.pc (some a) A.regs.length (some b) A.box.length g A.links.length ∧ Am.cell h b.block b.off = some (.int .i64 k) ∧ Am.cell h b.block (b.off + 1) = some (.int .i64 n) ∧ Am.cell h b.block (b.off + 1 + 1) = some (.string s) ∧ Am.cell h b.block (b.off + 1 + 1 + 1) = some (.slice a' m m) ∧
   Am.wr base h a.block (a.off + i * 4) (termV k n s a' m) = some h' ∧ (∀ q, okTy base h' (some b) 39 q = true) ∧ AcG base f S h' ⟨A.pid, A.pc, A.regs.set i t, B, A.links⟩ (acV A.pid A.pc (some a) A.regs.length (shiftA (some b) (1 * 4)) B.length g A.links.length) ∧ KB S h h' ∧ h'.length = h.length := by
 obtain ⟨a, b, g, S1, S2, S3, rfl, r1, r2, r3, hg, s1, s2, s3, d1, d2, d3⟩ := x
 have r2' := r2
 rw [eB] at r2'
 have hb1 : ∀ b, blk a b → S1 b := by obtain ⟨vs, T, w1, w2, w3, _⟩ := r1; exact fun b hb => (w3 b hb).1
 have hb2 : ∀ x, blk b x → S2 x := by obtain ⟨vs, T, w1, w2, w3, _⟩ := r2; exact fun b hb => (w3 b hb).1
 obtain ⟨C, tcs, bd, hC, rfl, cells, hCS, hCb, rt⟩ := r2'.uncons (TmG.mo _ _) (by decide)
 obtain ⟨k, n, s, a', m, rfl⟩ := hC.form
 obtain ⟨ad, h', rfl, w1, w2, w3, w4⟩ := r1.put (TmG.kp _ _) hi hC rfl (by decide) fun b hb hs => d1 b hs (hCS b hb)
 have rt' := rt.keep (TmG.kp _ _) w3 fun b hb hk => d1 b (hb1 b hk) hb.1
 refine ⟨ad, bd, g, k, n, s, a', m, h', rfl, by simpa using cells 0 _ rfl, cells 1 _ rfl, cells 2 _ rfl, cells 3 _ rfl, w1, fun q => (r2.keep (TmG.kp _ _) w3 fun b hb hk => d1 b (hb1 b hk) hb).tyOk q, ⟨some ad, shiftA (some bd) (1 * 4), g, fun b => S1 b ∨ C b, fun b => S2 b ∧ ¬ C b, S3, by simp, w2, rt', r3.keep w3 fun b hb hk => d2 b (hb1 b hk) (hg b hb), hg, fun b hb => hb.elim (s1 b) fun hb => s2 b (hCS b hb), fun b hb => s2 b hb.1, s3, fun b hb hs => ?_, fun b hb hs => ?_, fun b hb => d3 b hb.1⟩, w3.mono fun b _ hb => s1 b (hb1 b hb), w4⟩
 ·rcases hb with hb | hb
  ·exact d1 b hb hs.1
  ·exact hs.2 hb
 ·rcases hb with hb | hb
  ·exact d2 b hb hs
  ·exact d3 b (hCS b hb) hs
end Go.Proofs.Ytjmkbglnjklbcaa.Am
set_option linter.unusedSimpArgs false
set_option linter.unusedVariables false
namespace Go.Proofs.Ytjmkbglnjklbcaa.Am
open Go Go.RowKit
end Go.Proofs.Ytjmkbglnjklbcaa.Am
set_option linter.unusedSimpArgs false
set_option linter.unusedVariables false
namespace Go.Proofs.Ytjmkbglnjklbcaa.Am
open Go Go.RowKit
def in0 : In := ⟨0, 0, 0, 0, 0, ⟨#[]⟩⟩
def fltA : Acd := ⟨7, 0, 0, .mk 2 0 flt []⟩
def nextF (F : Nat) (x : In) (A : Ac) (next : Int) : Option (List Tm × List Tm) :=
 if (x.op == (14 : Int)) = true then some (A.regs.set x.a.toNat (A.box.getD 0 tmZ), A.box.drop 1)
 else if makesF x.op = true then (match madeF x A.regs A.pid next with | none => none | some t => if tOk F t = true then some (A.regs.set x.a.toNat t, A.box) else none)
 else some (A.regs, A.box)
def stepF (F : Nat) (x : In) (A : Ac) (next : Int) : Ac × Acd :=
 if (!(actsF x A.regs next).2) = true then (A, fltA)
 else if (x.op == (19 : Int)) = true then (A, (actsF x A.regs next).1)
 else if (if (x.op == (14 : Int)) = true then ((A.box.length : Int) == (0 : Int)) else false) = true then (A, ⟨2, 0, 0, tmZ⟩)
 else match nextF F x A next with
  | none => (A, fltA)
  | some (R, B) => (⟨A.pid, if jumpsF F x A.regs = true then x.n else IntKind.wrap .i64 (A.pc + 1), R, B, A.links⟩, (actsF x A.regs next).1)
def stepA (f : Nat) (l : List In) (A : Ac) (next : Int) : Ac × Acd :=
 if (!(acOk (f + 1) l A && inB next 1 99999)) = true then (A, ⟨0, 0, 0, tmZ⟩) else stepF (f + 2) (l.getD A.pc.toNat in0) A next
theorem acOk_parts {f : Nat} {l : List In} {A : Ac} (h : acOk f l A = true) : codeOk l = true ∧ (0 ≤ A.pc ∧ A.pc < (l.length : Int)) ∧ A.regs.length = 8 ∧ tsB f A.regs = true ∧ A.box.length ≤ 30 ∧ tsB f A.box = true := by
 unfold acOk at h
 simp only [Bool.and_eq_true, decide_eq_true_eq, beq_iff_eq] at h
 obtain ⟨h1, h2, h3, h4, h5, h6, h7, _⟩ := h
 have := codeOk_spec h1
 unfold inB at h3
 simp only [Bool.and_eq_true, decide_eq_true_eq] at h3
 rw [w64i (by omega) (by omega)] at h3
 exact ⟨h1, ⟨h3.1, by omega⟩, by omega, h5, by omega, h7⟩
def StepQ (base F : Nat) (h : AH) (r : Ac × Acd) (o : Value × AH) : Prop :=
 ∃ cs k n s a m S T, o.1 = .tuple #[.agg cs.toArray, .agg (actV r.2.kind r.2.pid r.2.pc k n s a m).toArray] ∧ AcG base F S o.2 r.1 cs ∧ TmG base F T o.2 r.2.t (termV k n s a m) ∧ (∀ b, S b → ¬ T b) ∧ (∀ b, S b → h.length ≤ b ∧ b < o.2.length) ∧ (∀ b, T b → h.length ≤ b ∧ b < o.2.length) ∧ KB NoB h o.2
theorem atomG {base f : Nat} {S : Fp} {h : AH} {s : ByteArray} {k : Int} (hs : s.size ≤ maxLen) : TmG base (f + 1) S h (.mk k 0 s []) (termV k 0 s none 0) := ⟨hs, by decide, none, rfl, RowO.nil⟩
theorem implStep_run {base f : Nat} {h : AH} {S : Fp} {l : List In} {c : Option Addr} {A : Ac} {cs : List Value} {next : Int} (hL : ∀ x ∈ l, x.s.size ≤ 9223372036854775807) (hl : l.length ≤ 9223372036854775807) (hc : Sl h c (insR l)) (hBA : AcB (f + 1) A) (x : AcG base (f + 1) S h A cs) (hS : ∀ b, S b → b < h.length) (hb : base ≤ h.length) :
  Wp (run (Et base) 41 [.slice c l.length l.length, .agg cs.toArray, .int .i64 next] h) (StepQ base (f + 2) h (stepA f l A next)) := by
 have xR := x.acR
 have xG := x
 obtain ⟨a, b, g, S1, S2, S3, rfl, r1, r2, r3, hg, s1, s2, s3, d1, d2, d3⟩ := x
 refine W.of (fun r hx => Am.r41 hx) ?_
 refine W.box hb fun h1 o1 k1 q1 => W.box (base := base) (by omega) fun h2 oR1 k2 q2 => W.box (base := base) (by omega) fun h3 oR2 k3 q3 => ?_
 have k03 := kN (kN k1 k2) k3
 have o1 := (o1.keepN k2).keepN k3
 have oR1 := oR1.keepN k3
 obtain ⟨cs4, h4, e4, A4, k4⟩ := copyActor_run (base := base) hBA (xR.keep k03 fun _ _ h => h) (by omega) (fun b hb => by have := hS b hb; omega)
 have n4 := k4.1
 obtain ⟨p4, c4, a4, x4, b4, y4, g4, z4, rfl⟩ := A4.form
 refine W.q5 o1 (W.bs e4 (W.bs (v := acV p4 c4 a4 x4 b4 y4 g4 z4) rfl (W.bI rfl (W.bI rfl (W.bS rfl (W.bS rfl (W.bS rfl (W.nw (base := base) (h := h4) (by omega) rfl fun h5 o5 k5 q5' => ?_))))))))
 have k35 := kN k4 k5
 have k05 := kN k03 k35
 have o1 := o1.keepN k35
 have oR1 := oR1.keepN k35
 have oR2 := oR2.keepN k35
 obtain ⟨h6, e6, k6⟩ := implActorOk_run (base := base) hL hl (hc.keepN k05) hBA.M (xR.keep k05 fun _ _ h => h) (by omega)
 have n6 := k6.1
 have k06 := kN k05 k6
 refine W.joinP (fun q => q = ([some (.slice c l.length l.length), some (.int .i64 next), some (.pointer (at0 h.length)), some (.pointer (at0 h1.length)), some (.pointer (at0 h2.length)), some (.pointer (at0 h4.length)), some (.bool (!(acOk (f + 1) l A && inB next 1 99999)))], h6)) ?_ fun q hq => ?_
 ·refine W.q5 o1 (W.bs e6 (W.bB rfl (W.ite (fun d => ?_) fun d => ?_)))
  ·have d' : acOk (f + 1) l A = false := by simpa using d
   rw [d']; exact W.inl rfl
  ·have d' : acOk (f + 1) l A = true := by simpa using d
   refine W.bs in_run (W.bB rfl (W.inl ?_))
   rw [d', Bool.true_and]
 subst hq
 have o1 := o1.keepN k6
 have oR1 := oR1.keepN k6
 have oR2 := oR2.keepN k6
 have o5 := o5.keepN k6
 have A6 : AcG base (f + 2) (iS h3.length h4.length) h6 A (acV p4 c4 a4 x4 b4 y4 g4 z4) := (AcG.kp _ _ _ _ _ _ _ _ (kN k5 k6) (fun _ _ h => h) A4).le (by omega)
 have ex : ∀ {hz ha hb : AH} {A' : Ac} {S' T : Fp} {p c : Int} {a b g : Option Addr} {x y z : Nat} {kd pid pc k n : Int} {s : ByteArray} {ad : Option Addr} {m : Nat} {t : Tm} (oa : Own base 65 ha (at0 h1.length) (setAt (acV 0 0 none 0 none 0 none 0) 0 (acV p c a x b y g z))) (ka : KB (· = h1.length) hz ha) (la : ha.length = hz.length) (ob : Own base 70 hb (at0 h2.length) (setAt (actV 0 0 0 0 0 ⟨#[]⟩ none 0) 0 (actV kd pid pc k n s ad m))) (kb : KB (· = h2.length) ha hb) (lb : hb.length = ha.length) (k0z : KB NoB h hz) (k6z : h6.length ≤ hz.length)
   (hA : AcG base (f + 2) S' hz A' (acV p c a x b y g z)) (ht : TmG base (f + 2) T hz t (termV k n s ad m)) (hST : ∀ b, S' b → ¬ T b) (hS' : ∀ b, S' b → h3.length ≤ b ∧ b < hz.length) (hT : ∀ b, T b → h3.length ≤ b ∧ b < hz.length),
   Wp (((Am.cell hb h1.length 0).bind (getI .i64)).bind fun n1 => ((Am.cell hb h1.length 1).bind (getI .i64)).bind fun n2 => ((Am.cell hb h1.length 2).bind getS).bind fun l3 => ((Am.cell hb h1.length 3).bind getS).bind fun l4 => ((Am.cell hb h1.length 4).bind getS).bind fun l5 =>
    ((Am.cell hb h2.length 0).bind (getI .i64)).bind fun m1 => ((Am.cell hb h2.length 1).bind (getI .i64)).bind fun m2 => ((Am.cell hb h2.length 2).bind (getI .i64)).bind fun m3 => ((Am.cell hb h2.length 3).bind (getI .i64)).bind fun m4 => ((Am.cell hb h2.length 4).bind (getI .i64)).bind fun m5 => ((Am.cell hb h2.length 5).bind getStr).bind fun s6 => ((Am.cell hb h2.length 6).bind getS).bind fun l7 =>
    some ((Value.tuple #[(.agg #[(.int .i64 n1), (.int .i64 n2), (.slice l3.1 l3.2 l3.2), (.slice l4.1 l4.2 l4.2), (.slice l5.1 l5.2 l5.2)]), (.agg #[(.int .i64 m1), (.int .i64 m2), (.int .i64 m3), (.int .i64 m4), (.int .i64 m5), (.string s6), (.slice l7.1 l7.2 l7.2)])]), hb)) (StepQ base (f + 2) h (A', ⟨kd, pid, pc, t⟩)) := by
  intro hz ha hb A' S' T p c a b g x y z kd pid pc k n s ad m t oa ka la ob kb lb k0z k6z hA ht hST hS' hT
  have hz0 : setAt (acV 0 0 none 0 none 0 none 0) 0 (acV p c a x b y g z) = acV p c a x b y g z := rfl
  rw [hz0] at oa
  have hz1 : setAt (actV 0 0 0 0 0 ⟨#[]⟩ none 0) 0 (actV kd pid pc k n s ad m) = actV kd pid pc k n s ad m := rfl
  rw [hz1] at ob
  have oa := oa.keepB kb fun i hi => by rw [blk_at0] at hi; omega
  refine W.q5 oa (q7 ob (W.ret ⟨_, _, _, _, _, _, S', T, rfl, ?_, ?_, hST, fun b hb => ?_, fun b hb => ?_, kFresh (kFresh k0z ka fun i hi => by omega) kb fun i hi => by omega⟩))
  ·exact AcG.kp _ _ _ _ _ _ _ _ kb (fun b hb hk => by have := hS' b hb; omega) (AcG.kp _ _ _ _ _ _ _ _ ka (fun b hb hk => by have := hS' b hb; omega) hA)
  ·exact TmG.kp _ _ _ _ _ _ _ _ kb (fun b hb hk => by have := hT b hb; omega) (TmG.kp _ _ _ _ _ _ _ _ ka (fun b hb hk => by have := hT b hb; omega) ht)
  ·have := hS' b hb; simp only; omega
  ·have := hT b hb; simp only; omega
 have n12 : ∀ {i : Nat}, blk (at0 h2.length) i → i ≠ h1.length := fun hi => by rw [blk_at0] at hi; omega
 unfold stepA
 refine W.bS rfl (W.bI rfl (W.bA rfl (W.bA rfl (W.bA rfl (W.bA rfl (W.bB rfl (W.ite (fun d => ?_) fun d => ?_)))))))
 ·rw [if_pos d]
  refine W.q5 o5 (W.wr0 oR1 (by simp) (by simp) fun ha oa ka la => W.wr0 (oR2.keepB ka fun i hi => n12 hi) (by simp) (by simp) fun hb ob kb lb => ?_)
  exact ex oa ka la ob kb lb k06 (Nat.le_refl _) A6 (tmZ_G (S := fun _ => False)) (fun _ _ h => h) (fun b hb => ⟨hb.1, by have := hb.2; show b < h6.length; omega⟩) (fun _ h => h.elim)
 rw [if_neg d]
 have d' : acOk (f + 1) l A = true ∧ inB next 1 99999 = true := by simpa using d
 obtain ⟨hcode, ⟨pc0, pcl⟩, hR8, htR, hbx, htB⟩ := acOk_parts d'.1
 have hpc : A.pc.toNat < l.length := by omega
 obtain ⟨cd, rfl, w0, w1, w2, w3, w4, w5⟩ := In.get (hc.keepN k06) hpc
 have hIn := codeOk_bd hcode _ (List.getElem_mem hpc)
 have hsz := (codeOk_spec hcode).2.2 _ (List.getElem_mem hpc)
 have el : l.getD A.pc.toNat in0 = l[A.pc.toNat] := by simp [hpc]
 rw [el]
 generalize l[A.pc.toNat] = x at w0 w1 w2 w3 w4 w5 hIn hsz
 obtain ⟨m1, m2, m3, m4, m5⟩ := hBA
 refine W.bI (o1.at0 (i := 1) rfl) (W.ifT ⟨pc0, pcl⟩ (W.bs rfl (W.bI w0 (W.bI w1 (W.bI w2 (W.bI w3 (W.bI w4 (W.bT w5 (W.nw (base := base) (h := h6) (by omega) rfl fun h7 o7 k7 q7' => ?_))))))))) 
 have q7' : h7.length = h6.length + 1 := q7'
 have k7 : KB NoB h6 h7 := k7
 have k07 := kN k06 k7
 have o1 := o1.keepN k7
 have hR7 := r1.keep (TmG.kp _ _) k07 fun _ _ h => h
 have hS1 : ∀ b, S1 b → b < h7.length := fun b hb => by have := hS b (s1 b hb); omega
 obtain ⟨k, n, s, ad, m, h8, e8, t8, k8⟩ := acts_run (base := base) (next := next) hR7.tsG hR8 hIn m4 (by omega) hS1
 have n8 := k8.1
 have k08 := kN k07 k8
 have qi : ∀ {β : Type} {Q : β → Prop} {ff : Int → Int → Int → Int → Int → ByteArray → Option β} {hz : AH} (o : Own base 139 hz (at0 h6.length) (inV x)) (w : Wp (ff x.op x.a x.b x.c x.n x.s) Q), Wp (((Am.cell hz h6.length 0).bind (getI .i64)).bind fun n1 => ((Am.cell hz h6.length 1).bind (getI .i64)).bind fun n2 => ((Am.cell hz h6.length 2).bind (getI .i64)).bind fun n3 => ((Am.cell hz h6.length 3).bind (getI .i64)).bind fun n4 => ((Am.cell hz h6.length 4).bind (getI .i64)).bind fun n5 => ((Am.cell hz h6.length 5).bind getStr).bind fun s6 => ff n1 n2 n3 n4 n5 s6) Q :=
  fun o w => W.bI (o.at0 (i := 0) rfl) (W.bI (o.at0 (i := 1) rfl) (W.bI (o.at0 (i := 2) rfl) (W.bI (o.at0 (i := 3) rfl) (W.bI (o.at0 (i := 4) rfl) (W.bT (o.at0 (i := 5) rfl) w)))))
 refine qi o7 (W.bS (o1.at0 (i := 2) rfl) (W.bs e8 (W.bs (v := [Value.agg (actV (actsF x A.regs next).1.kind (actsF x A.regs next).1.pid (actsF x A.regs next).1.pc k n s ad m).toArray, Value.bool (actsF x A.regs next).2]) rfl (W.bs (v := actV (actsF x A.regs next).1.kind (actsF x A.regs next).1.pid (actsF x A.regs next).1.pc k n s ad m) rfl (W.bI rfl (W.bI rfl (W.bI rfl (W.bI rfl (W.bI rfl (W.bT rfl (W.bS rfl (W.bB rfl (W.nw (base := base) (h := h8) (by omega) rfl fun h9 o9 k9 q9 => ?_)))))))))))))
 have q9 : h9.length = h8.length + 1 := q9
 have k9 : KB NoB h8 h9 := k9
 have k79 := kN k8 k9
 have k09 := kN k07 k79
 have k69 := kN k7 k79
 have o1 := o1.keepN k79
 have o7 := o7.keepN k79
 have oR1 := oR1.keepN k69
 have oR2 := oR2.keepN k69
 have o5 := o5.keepN k69
 have A9 : AcG base (f + 2) (iS h3.length h4.length) h9 A (acV p4 c4 a4 x4 b4 y4 g4 z4) := AcG.kp _ _ _ _ _ _ _ _ k69 (fun _ _ h => h) A6
 have t9 : TmG base (f + 2) (iS h7.length h8.length) h9 (actsF x A.regs next).1.t (termV k n s ad m) := (TmG.kp _ _ _ _ _ _ _ _ k9 (fun _ _ h => h) t8).le (by omega)
 have hA9 : ∀ b, iS h3.length h4.length b → h3.length ≤ b ∧ b < h9.length := fun b hb => by omega
 have hT9 : ∀ b, iS h7.length h8.length b → h3.length ≤ b ∧ b < h9.length := fun b hb => by omega
 have hd9 : ∀ b, iS h3.length h4.length b → ¬ iS h7.length h8.length b := fun b hb hb' => by omega
 have exF : ∀ {P : Slots × AH → Prop} {hz : AH} (k9z : KB NoB h9 hz), Wp ((run (Et base) 99 [] hz).bind fun r224 => ((some r224.1).bind (getAgg 7)).bind fun l225 => ((l225[0]?).bind (getI .i64)).bind fun n226 => ((l225[1]?).bind (getI .i64)).bind fun n227 => ((l225[2]?).bind (getI .i64)).bind fun n228 => ((l225[3]?).bind (getI .i64)).bind fun n229 => ((l225[4]?).bind (getI .i64)).bind fun n230 => ((l225[5]?).bind getStr).bind fun s231 => ((l225[6]?).bind getS).bind fun l232 =>
   (gate (sameA hz r224.2 (at0 h4.length) 5) ((Am.wr base r224.2 h1.length 0 (acV p4 c4 a4 x4 b4 y4 g4 z4)).bind fun ha => (Am.wr base ha h2.length 0 [(.int .i64 n226), (.int .i64 n227), (.int .i64 n228), (.int .i64 n229), (.int .i64 n230), (.string s231), (.slice l232.1 l232.2 l232.2)]).bind fun hb => (((Am.cell hb h1.length 0).bind (getI .i64)).bind fun n1 => ((Am.cell hb h1.length 1).bind (getI .i64)).bind fun n2 => ((Am.cell hb h1.length 2).bind getS).bind fun l3 => ((Am.cell hb h1.length 3).bind getS).bind fun l4 => ((Am.cell hb h1.length 4).bind getS).bind fun l5 =>
    ((Am.cell hb h2.length 0).bind (getI .i64)).bind fun m1 => ((Am.cell hb h2.length 1).bind (getI .i64)).bind fun m2 => ((Am.cell hb h2.length 2).bind (getI .i64)).bind fun m3 => ((Am.cell hb h2.length 3).bind (getI .i64)).bind fun m4 => ((Am.cell hb h2.length 4).bind (getI .i64)).bind fun m5 => ((Am.cell hb h2.length 5).bind getStr).bind fun s6 => ((Am.cell hb h2.length 6).bind getS).bind fun l7 =>
    some ((Value.tuple #[(.agg #[(.int .i64 n1), (.int .i64 n2), (.slice l3.1 l3.2 l3.2), (.slice l4.1 l4.2 l4.2), (.slice l5.1 l5.2 l5.2)]), (.agg #[(.int .i64 m1), (.int .i64 m2), (.int .i64 m3), (.int .i64 m4), (.int .i64 m5), (.string s6), (.slice l7.1 l7.2 l7.2)])]), hb)).map Sum.inr))) (Sum.elim P (StepQ base (f + 2) h (A, fltA))) := by
  intro P hz k9z
  have n9z := k9z.1
  obtain ⟨hf, ef, kf⟩ := fault_run (base := base) (h := hz) (by omega)
  have nf := kf.1
  have k9f := kN k9z kf
  refine W.bs ef (W.bs (v := actV 7 0 0 2 0 flt none 0) rfl (W.bI rfl (W.bI rfl (W.bI rfl (W.bI rfl (W.bI rfl (W.bT rfl (W.bS rfl (W.gt (same_keep kf ((o5.keepN k9z).at0 (i := 0) rfl)) (W.wr0 (oR1.keepN k9f) (by simp) (by simp) fun ha oa ka la => W.wr0 ((oR2.keepN k9f).keepB ka fun i hi => n12 hi) (by simp) (by simp) fun hb ob kb lb => ?_))))))))))
  exact W.mp (ex oa ka la ob kb lb (kN k09 k9f) (by have := k9f.1; show h6.length ≤ hf.length; omega) (AcG.kp _ _ _ _ _ _ _ _ k9f (fun _ _ h => h) A9) (atomG (S := fun _ => False) (by decide)) (fun _ _ h => h) (fun b hb => by have := hA9 b hb; show _ ∧ b < hf.length; omega) (fun _ h => h.elim))
 unfold stepF
 refine W.joinP (fun q => ∃ (hz : AH) (R B : List Tm) (csz : List Value) (Sz : Fp), q = ([some (.pointer (at0 h.length)), some (.pointer (at0 h1.length)), some (.pointer (at0 h2.length)), some (.pointer (at0 h4.length)), some (.pointer (at0 h6.length)), some (.pointer (at0 h8.length))], hz) ∧
   (stepF (f + 2) x A next = (⟨A.pid, if jumpsF (f + 2) x A.regs = true then x.n else IntKind.wrap .i64 (A.pc + 1), R, B, A.links⟩, (actsF x A.regs next).1)) ∧
   AcG base (f + 2) Sz hz ⟨A.pid, A.pc, R, B, A.links⟩ csz ∧ Own base 65 hz (at0 h4.length) csz ∧ (∀ b, Sz b → (h3.length ≤ b ∧ b < h4.length) ∨ (h9.length ≤ b ∧ b < hz.length)) ∧ KB (fun b => (h3.length ≤ b ∧ b < h4.length) ∨ b = h4.length) h9 hz) ?_ fun q hq => ?_
 ·have hsF : stepF (f + 2) x A next = if (!(actsF x A.regs next).2) = true then (A, fltA) else if (x.op == (19 : Int)) = true then (A, (actsF x A.regs next).1) else if (if (x.op == (14 : Int)) = true then ((A.box.length : Int) == (0 : Int)) else false) = true then (A, ⟨2, 0, 0, tmZ⟩) else match nextF (f + 2) x A next with | none => (A, fltA) | some (R, B) => (⟨A.pid, if jumpsF (f + 2) x A.regs = true then x.n else IntKind.wrap .i64 (A.pc + 1), R, B, A.links⟩, (actsF x A.regs next).1) := rfl
  refine W.ite (fun e1 => ?_) fun e1 => ?_
  ·rw [if_pos e1]
   exact W.q5 o5 (exF (KB.refl _ _))
  rw [if_neg e1] at hsF ⊢
  refine W.bI (o7.at0 (i := 0) rfl) (W.ite (fun e2 => ?_) fun e2 => ?_)
  ·rw [if_pos e2]
   refine W.q5 o5 (q7 o9 (W.wr0 oR1 (by simp) (by simp) fun ha oa ka la => W.gt (same_KB ka (show h8.length < h9.length by omega) (show ¬ (h8.length = h1.length) by omega)) (W.wr0 (oR2.keepB ka fun i hi => n12 hi) (by simp) (by simp) fun hb ob kb lb => W.mp ?_)))
   exact ex oa ka la ob kb lb k09 (by show h6.length ≤ h9.length; omega) A9 t9 hd9 hA9 hT9
  rw [if_neg e2] at hsF ⊢
  refine W.joinP (fun q => q = ([some (.int .i64 next), some (.pointer (at0 h.length)), some (.pointer (at0 h1.length)), some (.pointer (at0 h2.length)), some (.pointer (at0 h4.length)), some (.pointer (at0 h6.length)), some (.pointer (at0 h8.length)), some (.bool (if (x.op == (14 : Int)) = true then ((A.box.length : Int) == (0 : Int)) else false))], h9)) ?_ fun q hq => ?_
  ·refine W.bI (o7.at0 (i := 0) rfl) (W.ite (fun e3 => ?_) fun e3 => ?_)
   ·rw [if_pos e3]; exact W.bS (o1.at0 (i := 3) rfl) (W.inl rfl)
   ·rw [if_neg e3]; exact W.inl rfl
  subst hq
  refine W.bI rfl (W.bA rfl (W.bA rfl (W.bA rfl (W.bA rfl (W.bA rfl (W.bA rfl (W.bB rfl (W.ite (fun e3 => ?_) fun e3 => ?_))))))))
  ·rw [if_pos e3]
   refine W.q5 o5 (W.wr0 oR1 (by simp) (by simp) fun ha oa ka la => W.wr0 (oR2.keepB ka fun i hi => n12 hi) (by simp) (by simp) fun hb ob kb lb => W.mp ?_)
   exact ex oa ka la ob kb lb k09 (by show h6.length ≤ h9.length; omega) A9 (tmZ_G (S := fun _ => False)) (fun _ _ h => h) (fun b hb => hA9 b hb) (fun _ h => h.elim)
  rw [if_neg e3] at hsF ⊢
  have hxa : x.a.toNat < A.regs.length := by have := hIn.1; omega
  refine W.bI (o7.at0 (i := 0) rfl) (W.ite (fun e4' => ?_) fun e4' => ?_)
  ·-- a term is taken out of the box
   rw [if_pos e4'] at e3
   have hbl : A.box.length ≠ 0 := fun e => e3 (by rw [e]; rfl)
   obtain ⟨t0, B0, eB⟩ : ∃ t0 B0, A.box = t0 :: B0 := by
    cases hbx : A.box with
    | nil => rw [hbx] at hbl; exact absurd rfl hbl
    | cons t0 B0 => exact ⟨t0, B0, rfl⟩
   obtain ⟨aa, bb, gg, k', n', s', a', m', h10, ecs, g0, g1, g2, g3, w10, hok, A10, k10, l10⟩ := A9.take hxa eB
   injection ecs with c1 ecs
   injection ecs with c2 ecs
   injection ecs with c3 ecs
   injection ecs with c4 ecs
   injection ecs with c5 _
   injection c1 with _ c1; injection c2 with _ c2; injection c3 with c3 c3' _; injection c4 with c4 c4' _; injection c5 with c5 c5' _
   subst c1; subst c2; subst c3; subst c3'; subst c4; subst c4'; subst c5; subst c5'
   refine W.bS (o5.at0 (i := 2) rfl) (W.bI (o7.at0 (i := 1) rfl) (W.bS (o5.at0 (i := 3) rfl) (W.ifT ⟨by decide, by show (0 : Int) < (A.box.length : Int); omega⟩ (W.bs rfl (W.bI g0 (W.bI g1 (W.bT g2 (W.bS g3 (W.ifT ⟨hIn.1.1, by show x.a < (A.regs.length : Int); omega⟩ (W.bs rfl (W.bs w10 ?_)))))))))))
   have o5' : Own base 65 h10 (at0 h4.length) _ := o5.keep k10 fun i hi hk => by rw [blk_at0] at hi; omega
   have h10l : h10.length = h9.length := l10
   refine W.bS (o5'.at0 (i := 3) rfl) (W.ifT ⟨by decide, by show (1 : Int) ≤ (A.box.length : Int); omega, Int.le_refl _, hok _⟩ (W.wr0 o5' (by simp) (by simp) fun h11 o11 k11 l11 => W.inl ?_))
   have h11l : h11.length = h10.length := l11
   have k11 : KB (· = h4.length) h10 h11 := k11
   have e11 : A.box.length - 1 = B0.length := by rw [eB]; rfl
   refine ⟨h11, A.regs.set x.a.toNat t0, B0, acV A.pid A.pc (some aa) A.regs.length (shiftA (some bb) (1 * 4)) B0.length g4 A.links.length, iS h3.length h4.length, rfl, ?_, AcG.kp _ _ _ _ _ _ _ _ k11 (fun b hb hk => by omega) A10, ?_, fun b hb => .inl hb, KB.trans k10 k11 (fun b _ hb => .inl hb) (fun b _ hb => .inr hb)⟩
   ·rw [hsF]
    unfold nextF
    rw [if_pos e4', eB]
    rfl
   ·rw [← e11]
    exact o11
  ·refine W.bI (o7.at0 (i := 0) rfl) (W.bs makes_run (W.bB rfl (W.ite (fun e5 => ?_) fun e5 => ?_)))
   ·-- an instruction that makes something
    have hxb : x.b ≤ 7 := by
     rcases hIn.2.1.2 with e | e
     ·exfalso
      unfold makesF at e5
      rw [e] at e5
      exact absurd e5 (by decide)
     ·exact e
    have hR9 := r1.keep (TmG.kp _ _) k09 fun _ _ h => h
    refine qi o7 (W.bS (o1.at0 (i := 2) rfl) (W.bI (o1.at0 (i := 0) rfl) (W.wb (made_run (base := base) (h := h9) (pid := A.pid) (next := next) hR9 hR8 hIn hxb (by omega) m4 (fun b hb => by have := hS b (s1 b hb); have := k09.1; omega) (by have := k09.1; omega)) ?_)))
    rintro ⟨u, h10⟩ ⟨k', n', s', a', m', bo, rfl, k10, hm⟩
    have k10 : KB NoB h9 h10 := k10
    have n10 := k10.1
    refine W.bs (v := [Value.agg (termV k' n' s' a' m').toArray, Value.bool bo]) rfl (W.bs (v := termV k' n' s' a' m') rfl (W.bI rfl (W.bI rfl (W.bT rfl (W.bS rfl (W.bB rfl (W.nw (base := base) (h := h10) (by omega) rfl fun h11 o11 k11 q11 => ?_)))))))
    have k911 := kN k10 k11
    have k911' : KB NoB h9 h11 := k911
    have hsN : stepF (f + 2) x A next = match (match madeF x A.regs A.pid next with | none => none | some t => if tOk (f + 2) t = true then some (A.regs.set x.a.toNat t, A.box) else none) with | none => (A, fltA) | some (R, B) => (⟨A.pid, if jumpsF (f + 2) x A.regs = true then x.n else IntKind.wrap .i64 (A.pc + 1), R, B, A.links⟩, (actsF x A.regs next).1) := by
     rw [hsF]
     unfold nextF
     rw [if_neg e4', if_pos e5]
    have n09 := k09.1
    have o1 := o1.keepN k911
    have o7 := o7.keepN k911
    have o5' := o5.keepN k911
    cases hmF : madeF x A.regs A.pid next with
    | none =>
     rw [hmF] at hm
     subst hm
     have hN : nextF (f + 2) x A next = none := by unfold nextF; rw [if_neg e4', if_pos e5, hmF]
     rw [hN]
     refine W.joinP (fun q => q = ([some (.pointer (at0 h.length)), some (.pointer (at0 h1.length)), some (.pointer (at0 h2.length)), some (.pointer (at0 h4.length)), some (.pointer (at0 h6.length)), some (.pointer (at0 h8.length)), some (.pointer (at0 h10.length)), some (.bool true)], h11)) (W.ifT rfl (W.inl rfl)) fun q hq => ?_
     subst hq
     exact W.bA rfl (W.bA rfl (W.bA rfl (W.bA rfl (W.bA rfl (W.bA rfl (W.bA rfl (W.bB rfl (W.ifT rfl (W.q5 o5' (exF k911'))))))))))
    | some t =>
     rw [hmF] at hm hsN
     obtain ⟨rfl, ht⟩ := hm
     obtain ⟨h12, e12, k12⟩ := implTermOk_run (base := base) (h := h11) (TmR.keep k11 (fun _ _ h => h) _ _ _ ht) (by omega)
     have n12' := k12.1
     have k912 := kN k911' k12
     refine W.joinP (fun q => q = ([some (.pointer (at0 h.length)), some (.pointer (at0 h1.length)), some (.pointer (at0 h2.length)), some (.pointer (at0 h4.length)), some (.pointer (at0 h6.length)), some (.pointer (at0 h8.length)), some (.pointer (at0 h10.length)), some (.bool (!tOk (f + 2) t))], h12)) (W.ifF (by decide) (W.q4 o11 (W.bs e12 (W.bB rfl (W.inl rfl))))) fun q hq => ?_
     subst hq
     refine W.bA rfl (W.bA rfl (W.bA rfl (W.bA rfl (W.bA rfl (W.bA rfl (W.bA rfl (W.bB rfl (W.ite (fun e6' => ?_) fun e6' => ?_))))))))
     ·have hN : nextF (f + 2) x A next = none := by
       unfold nextF
       rw [if_neg e4', if_pos e5, hmF]
       have : tOk (f + 2) t = false := by simpa using e6'
       simp [this]
      rw [hN]
      exact W.q5 (o5'.keepN k12) (exF k912)
     ·have e6t : tOk (f + 2) t = true := by simpa using e6'
      obtain ⟨bt, _⟩ := tOk_B e6t
      have o7 := o7.keepN k12
      have o5' := o5'.keepN k12
      have ht12 := TmR.ltp _ _ _ (TmR.keep k12 (fun _ _ h => h) _ _ _ (TmR.keep k11 (fun _ _ h => h) _ _ _ ht))
      obtain ⟨cs13, h13, e13, t13, k13⟩ := copyTermG_run (base := base) (f + 2) h12 _ _ _ ht12 bt (by omega) (fun b hb => hb.2)
      obtain ⟨k'', n'', s'', a'', m'', rfl⟩ := t13.form
      have n13 := k13.1
      have A13 := AcG.kp _ _ _ _ _ _ _ _ (kN k912 k13) (fun _ _ h => h) A9
      obtain ⟨aa, h14, ec2, w14, A14, k14, l14⟩ := A13.setReg hxa t13 (fun b hb hb' => by omega)
      injection ec2 with ec2
      injection ec2 with ec2 ec3 _
      subst ec2; subst ec3
      refine W.bS (o5'.at0 (i := 2) rfl) (W.bI (o7.at0 (i := 1) rfl) (W.q4 (o11.keepN k12) (W.bs e13 (W.g4 (W.gt (same_keep k13 (o7.at0 (i := 1) rfl)) (W.gt (same_keep k13 (o5'.at0 (i := 2) rfl)) (W.ifT ⟨hIn.1.1, by show x.a < (A.regs.length : Int); omega⟩ (W.bs rfl (W.bs w14 (W.inl ?_))))))))))
      refine ⟨h14, A.regs.set x.a.toNat t, A.box, _, fun b => iS h3.length h4.length b ∨ iS h12.length h13.length b, rfl, ?_, A14, (o5'.keepN k13).keep k14 fun i hi hk => by rw [blk_at0] at hi; omega, fun b hb => ?_, KB.trans (kN k912 k13) k14 (fun _ _ h => h.elim) (fun b _ hb => .inl hb)⟩
      ·rw [hsN]
       simp [e6t]
      ·rcases hb with hb | hb
       ·exact .inl hb
       ·exact .inr (by omega)
   ·refine W.inl ⟨h9, A.regs, A.box, acV p4 c4 a4 x4 b4 y4 g4 z4, iS h3.length h4.length, rfl, ?_, A9, o5, fun b hb => .inl hb, KB.refl _ _⟩
    rw [hsF]
    unfold nextF
    rw [if_neg e4', if_neg e5]
 ·obtain ⟨hz, R, B, csz, Sz, rfl, hsF, hA, oz, hSz, kz⟩ := hq
  have nz := kz.1
  rw [show (if (!(actsF x A.regs next).2) = true then (A, fltA) else if (x.op == (19 : Int)) = true then (A, (actsF x A.regs next).1) else if (if (x.op == (14 : Int)) = true then ((A.box.length : Int) == (0 : Int)) else false) = true then (A, ⟨2, 0, 0, tmZ⟩) else match nextF (f + 2) x A next with | none => (A, fltA) | some (R, B) => (⟨A.pid, if jumpsF (f + 2) x A.regs = true then x.n else IntKind.wrap .i64 (A.pc + 1), R, B, A.links⟩, (actsF x A.regs next).1)) = stepF (f + 2) x A next from rfl, hsF]
  have hA' := hA
  obtain ⟨za, zb, zg, Z1, Z2, Z3, rfl, _⟩ := hA'
  have o1 := o1.keep kz fun i hi hk => by rw [blk_at0] at hi; omega
  have o7 := o7.keep kz fun i hi hk => by rw [blk_at0] at hi; omega
  have o9 := o9.keep kz fun i hi hk => by rw [blk_at0] at hi; omega
  have oR1 := oR1.keep kz fun i hi hk => by rw [blk_at0] at hi; omega
  have oR2 := oR2.keep kz fun i hi hk => by rw [blk_at0] at hi; omega
  have k0z : KB NoB h hz := kFresh k09 kz fun i hi => by omega
  refine W.bA rfl (W.bA rfl (W.bA rfl (W.bA rfl (W.bA rfl (W.bA rfl (W.bI (oz.at0 (i := 1) rfl) (W.wr0 oz (by simp) (by simp) fun ha oa ka la => ?_)))))))
  have la : ha.length = hz.length := la
  have ka : KB (· = h4.length) hz ha := ka
  have hRa := ((r1.keep (TmG.kp _ _) k0z fun _ _ h => h).keep (TmG.kp _ _) ka fun b hb hk => by have := hS b (s1 b hb); omega).tsG.le (show f + 1 ≤ f + 2 by omega)
  obtain ⟨hy0, ey0, ky0⟩ := jumps_run (base := base) (x := x) hRa hR8 hIn (by omega)
  have ny0 := ky0.1
  have o1 := o1.keepB ka fun i hi => by rw [blk_at0] at hi; omega
  have o7 := o7.keepB ka fun i hi => by rw [blk_at0] at hi; omega
  refine W.joinP (fun q => ∃ hy, q = ([some (.pointer (at0 h1.length)), some (.pointer (at0 h2.length)), some (.pointer (at0 h4.length)), some (.pointer (at0 h8.length))], hy) ∧ Own base 65 hy (at0 h4.length) (acV A.pid (if jumpsF (f + 2) x A.regs = true then x.n else IntKind.wrap .i64 (A.pc + 1)) za R.length zb B.length zg A.links.length) ∧ KB (· = h4.length) hz hy) ?_ fun q hq => ?_
  ·refine qi o7 (W.bS (o1.at0 (i := 2) rfl) (W.bs ey0 (W.bB rfl (W.ite (fun e => ?_) fun e => ?_))))
   ·rw [if_pos e]
    refine W.bI ((o7.keepN ky0).at0 (i := 4) rfl) (W.wr0 (oa.keepN ky0) (by simp [setAt]) (by simp) fun hc' oc kc lc => W.inl ⟨hc', rfl, oc, ?_⟩)
    exact KB.trans (KB.trans ka ky0 (fun _ _ h => h) (fun _ _ h => h.elim)) kc (fun _ _ h => h) (fun _ _ h => h)
   ·rw [if_neg e]
    exact W.inl ⟨hy0, rfl, oa.keepN ky0, KB.trans ka ky0 (fun _ _ h => h) (fun _ _ h => h.elim)⟩
  obtain ⟨hy, rfl, oy, ky⟩ := hq
  have ny := ky.1
  have o9 := o9.keepB ky fun i hi => by rw [blk_at0] at hi; omega
  have oR1 := oR1.keepB ky fun i hi => by rw [blk_at0] at hi; omega
  have oR2 := oR2.keepB ky fun i hi => by rw [blk_at0] at hi; omega
  refine W.bA rfl (W.bA rfl (W.bA rfl (W.bA rfl (W.q5 oy (q7 o9 (W.wr0 oR1 (by simp) (by simp) fun hd od kd' ld => W.gt (same_KB kd' (show h8.length < hy.length by omega) (show ¬ (h8.length = h1.length) by omega)) (W.wr0 (oR2.keepB kd' fun i hi => n12 hi) (by simp) (by simp) fun hb ob kb lb => ?_)))))))
  have hAy := (AcG.kp _ _ _ _ _ _ _ _ ky (fun b hb hk => by have := hSz b hb; omega) hA).setPc (if jumpsF (f + 2) x A.regs = true then x.n else IntKind.wrap .i64 (A.pc + 1))
  exact ex od kd' ld ob kb lb (kFresh k0z ky fun i hi => by omega) (by show h6.length ≤ hy.length; omega) hAy (TmG.kp _ _ _ _ _ _ _ _ ky (fun b hb hk => by omega) (TmG.kp _ _ _ _ _ _ _ _ kz (fun b hb hk => by omega) t9)) (fun b hb hb' => by have := hSz b hb; omega) (fun b hb => by have := hSz b hb; show _ ∧ b < hy.length; omega) (fun b hb => by have := hT9 b hb; show _ ∧ b < hy.length; omega)
end Go.Proofs.Ytjmkbglnjklbcaa.Am
set_option linter.unusedSimpArgs false
set_option linter.unusedVariables false
namespace Go.Proofs.Ytjmkbglnjklbcaa.Am
open Go Go.RowKit
end Go.Proofs.Ytjmkbglnjklbcaa.Am
set_option linter.unusedSimpArgs false
set_option linter.unusedVariables false
namespace Go.Proofs.Ytjmkbglnjklbcaa.Am
open Go Go.RowKit
def MkQ (base F : Nat) (h : AH) (o : Option Tm) (r : Value × AH) : Prop :=
 ∃ k n s a m b, r.1 = .tuple #[.agg (termV k n s a m).toArray, .bool b] ∧ KB NoB h r.2 ∧ match o with
  | none => b = false
  | some t => b = true ∧ TmG base F (iS h.length r.2.length) r.2 t (termV k n s a m)
theorem MkQ.ok {base F : Nat} {h h' : AH} {k n : Int} {s : ByteArray} {a : Option Addr} {l : List Tm} {m : Nat} (kb : KB NoB h h') (x : TmG base F (iS h.length h'.length) h' (.mk k n s l) (termV k n s a m)) : MkQ base F h (some (.mk k n s l)) (.tuple #[.agg (termV k n s a m).toArray, .bool true], h') :=
 ⟨k, n, s, a, m, true, rfl, kb, rfl, x⟩
theorem W.o4 {β : Type} {Q : β → Prop} {base t g : Nat} {S : Fp} {h : AH} {l : List Tm} {a : Option Addr} (hs : RowO base t 4 (TmG base (g + 1)) S h l a) {i : Nat} (hi : i < l.length) {f : Int → Int → ByteArray → Option Addr × Nat → Option β} (w : ∀ k n s a2 l2, l[i] = .mk k n s l2 → TmG base (g + 1) S h (.mk k n s l2) (termV k n s a2 l2.length) → RowO base 39 4 (TmG base g) S h l2 a2 → s.size ≤ maxLen → l2.length ≤ maxLen → Wp (f k n s (a2, l2.length)) Q) :
  Wp (a.bind fun ad => ((Am.cell h ad.block (ad.off + i * 4)).bind (getI .i64)).bind fun n1 => ((Am.cell h ad.block (ad.off + i * 4 + 1)).bind (getI .i64)).bind fun n2 => ((Am.cell h ad.block (ad.off + i * 4 + 1 + 1)).bind getStr).bind fun s3 => ((Am.cell h ad.block (ad.off + i * 4 + 1 + 1 + 1)).bind getS).bind fun l4 => f n1 n2 s3 l4) Q := by
 obtain ⟨ad, k, n, s, a2, m, C, rfl, _, g0, g1, g2, g3, hm, hC⟩ := hs.getG hi
 obtain ⟨l2, e, rfl, h1, h2, r⟩ := hm.parts
 refine W.bs rfl (W.bI g0 (W.bI g1 (W.bT g2 (W.bS g3 (w k n s a2 l2 e ?_ (r.mono hC) h1 h2)))))
 rw [← e]
 exact TmG.mo _ _ _ _ _ _ _ hC hm
theorem TmG.eq {base f : Nat} {S : Fp} {h : AH} {k n k' n' : Int} {s s' : ByteArray} {l : List Tm} {a : Option Addr} {m : Nat} (x : TmG base f S h (.mk k n s l) (termV k' n' s' a m)) : k = k' ∧ n = n' ∧ s = s' ∧ m = l.length := by
 cases f with
 | zero => exact x.elim
 | succ f =>
  obtain ⟨l2, e, hm, _⟩ := TmG.parts x
  injection e with t1 t2 t3 t4
  exact ⟨t1, t2, t3, by rw [hm, t4]⟩
end Go.Proofs.Ytjmkbglnjklbcaa.Am
set_option linter.unusedSimpArgs false
set_option linter.unusedVariables false
namespace Go.Proofs.Ytjmkbglnjklbcaa.Am
open Go Go.RowKit
end Go.Proofs.Ytjmkbglnjklbcaa.Am
set_option linter.unusedSimpArgs false
set_option linter.unusedVariables false
namespace Go.Proofs.Ytjmkbglnjklbcaa.Am
open Go Go.RowKit
theorem W.il {β γ : Type} {Q : β → Prop} {k : γ → Option β} {q : γ} (w : Wp (k q) Q) : Wp (some (Sum.inl q : Sum γ β)) (Sum.elim (fun q => Wp (k q) Q) Q) := W.inl w
theorem AcG.form2 {base f : Nat} {S : Fp} {h : AH} {A : Ac} {cs : List Value} (x : AcG base f S h A cs) : ∃ a b g, cs = acV A.pid A.pc a A.regs.length b A.box.length g A.links.length := by
 obtain ⟨a, b, g, S1, S2, S3, e, _⟩ := x
 exact ⟨a, b, g, e⟩
theorem StepQ.of {base F : Nat} {h0 h : AH} {D : Ds} {R : List Rs} {A : Ac} {cs : List Value} {S1 T : Fp} {AA : AH → Prop} {kd pid pc k n : Int} {s : ByteArray} {a : Option Addr} {m : Nat} {t : Tm} (d : Hs base NoB h0 h D R) {i : Nat} (e : R[i]? = some ⟨S1, true, AA⟩) (hA : AcG base F S1 h A cs) (ht : TmG base F T h t (termV k n s a m)) (hd : ∀ b, S1 b → ¬ T b) (hT : ∀ b, T b → h0.length ≤ b ∧ b < h.length) : StepQ base F h0 (A, ⟨kd, pid, pc, t⟩) (.tuple #[.agg cs.toArray, .agg (actV kd pid pc k n s a m).toArray], h) :=
 ⟨cs, k, n, s, a, m, S1, T, rfl, hA, ht, hd, fun b hb => ⟨(d.rfr e rfl b hb).resolve_left fun h => h, d.rlt e b hb⟩, hT, d.kb⟩
end Go.Proofs.Ytjmkbglnjklbcaa.Am
set_option linter.unusedSimpArgs false
set_option linter.unusedVariables false
namespace Go.Proofs.Ytjmkbglnjklbcaa.Am
open Go Go.RowKit
structure Gn where
 old : List Int
 young : List Int
 mark : Int
def GnS (h : AH) (oa ya : Option Addr) (G : Gn) : Prop := Sl h oa (iv .i64 G.old) ∧ Sl h ya (iv .i64 G.young)
def wOk (n : Int) : Prop := -9223372036854775808 ≤ n ∧ n ≤ 9223372036854775807
def Gn.Ok (G : Gn) : Prop := G.old.length ≤ 1048576 ∧ G.young.length ≤ 1048576 ∧ (∀ n ∈ G.old, wOk n) ∧ ∀ n ∈ G.young, wOk n
end Go.Proofs.Ytjmkbglnjklbcaa.Am
set_option linter.unusedSimpArgs false
set_option linter.unusedVariables false
namespace Go.Proofs.Ytjmkbglnjklbcaa.Am
open Go Go.RowKit
end Go.Proofs.Ytjmkbglnjklbcaa.Am
set_option linter.unusedSimpArgs false
set_option linter.unusedVariables false
namespace Go.Proofs.Ytjmkbglnjklbcaa.Am
open Go Go.RowKit
inductive IsMAs : List Ac → Int → Int → Prop
 | nil (k : Int) : IsMAs [] k k
 | cons {k k1 k2 : Int} {A : Ac} {r : List Ac} : A.pid = k → A.pc = k + 1 → IsMA A (k + 2) k1 → IsMAs r k1 k2 → IsMAs (A :: r) k k2
theorem IsMA.le {A : Ac} {k k' : Int} (x : IsMA A k k') : k ≤ k' := by
 obtain ⟨k1, k2, m1, m2, _, rfl⟩ := x
 have := m1.le
 have := m2.le
 omega
theorem IsMAs.le {l : List Ac} {k k' : Int} (x : IsMAs l k k') : k ≤ k' := by
 induction x with
 | nil => exact Int.le_refl _
 | cons _ _ m _ ih2 => have := m.le; omega
end Go.Proofs.Ytjmkbglnjklbcaa.Am
set_option linter.unusedSimpArgs false
set_option linter.unusedVariables false
namespace Go.Proofs.Ytjmkbglnjklbcaa.Am
open Go Go.RowKit
def a0 : Ac := ⟨0, 0, [], [], []⟩
end Go.Proofs.Ytjmkbglnjklbcaa.Am
set_option linter.unusedSimpArgs false
set_option linter.unusedVariables false
namespace Go.Proofs.Ytjmkbglnjklbcaa.Am
open Go Go.RowKit
end Go.Proofs.Ytjmkbglnjklbcaa.Am
set_option linter.unusedSimpArgs false
set_option linter.unusedVariables false
namespace Go.Proofs.Ytjmkbglnjklbcaa.Am
open Go Go.RowKit
end Go.Proofs.Ytjmkbglnjklbcaa.Am
set_option linter.unusedSimpArgs false
set_option linter.unusedVariables false
namespace Go.Proofs.Ytjmkbglnjklbcaa.Am
open Go Go.RowKit
end Go.Proofs.Ytjmkbglnjklbcaa.Am
set_option linter.unusedSimpArgs false
set_option linter.unusedVariables false
namespace Go.Proofs.Ytjmkbglnjklbcaa.Am
open Go Go.RowKit
theorem AcR.le {h : AH} {p : Nat → Prop} {f f' : Nat} (hf : f ≤ f') {A : Ac} {cs : List Value} (x : AcR h p f A cs) : AcR h p f' A cs := by
 obtain ⟨a, b, g, e, h1, h2, h3⟩ := x
 exact ⟨a, b, g, e, h1.le hf, h2.le hf, h3⟩
theorem AsR.le {h : AH} {p : Nat → Prop} {f f' : Nat} (hf : f ≤ f') {l : List Ac} {a : Option Addr} (x : AsR h p f l a) : AsR h p f' l a := by
 obtain ⟨vs, h1, h2, h3, h4⟩ := x
 exact ⟨vs, h1, h2, h3, fun i y hy => (h4 i y hy).le hf⟩
end Go.Proofs.Ytjmkbglnjklbcaa.Am
set_option linter.unusedSimpArgs false
set_option linter.unusedVariables false
namespace Go.Proofs.Ytjmkbglnjklbcaa.Am
open Go Go.RowKit
abbrev tm0 : Tm := .mk 1 0 ⟨#[]⟩ []
theorem tm0D {base f : Nat} {S : Fp} {h : AH} : TmG base (f + 1) S h tm0 (termV 1 0 ⟨#[]⟩ none 0) := ⟨by decide, by decide, none, rfl, RowO.nil⟩
def newOk (f : Nat) (pid pc : Int) (t : Tm) : Bool := inB pid 1 99999 && (!decide (pc < 0) && tOk f t)
def newRegs (t : Tm) : Nat → List Tm
 | 0 => [t]
 | n + 1 => newRegs t n ++ [tm0]
theorem newRegs_len (t : Tm) : ∀ n, (newRegs t n).length = n + 1
 | 0 => rfl
 | n + 1 => by simp [newRegs, newRegs_len t n]
def newA (f : Nat) (pid pc : Int) (t : Tm) : Ac := if newOk f pid pc t = true then ⟨pid, pc, newRegs t 7, [], []⟩ else ⟨0, 0, [], [], []⟩
theorem specNew_loop {base f b0 b1 : Nat} {t : Tm} {pid pc : Int} {lo : Nat} (hlo : base ≤ lo) (h1 : lo ≤ b1) : ∀ (d i : Nat) (h : AH) (ao : Option Addr) (vs : List Value) (T : Fp), i + d = 7 → b1 < h.length → Own base 65 h (at0 b1) (acV pid pc ao (i + 1) none 0 none 0) → Own base 39 h ao vs → vs.length = (i + 1) * 4 → Chunks 4 (TmG base (f + 1)) T h (newRegs t i) vs → (∀ b, T b → lo ≤ b ∧ b < h.length ∧ b ≠ b1) → (∀ b, blk ao b → ¬ T b ∧ lo ≤ b ∧ b ≠ b1) →
  ∃ h' ao' vs' T', loopL (B210_0 base) [some (.pointer (at0 b0)), some (.pointer (at0 b1)), some (.int .i64 ((i + 1 : Nat) : Int))] h = some (2, [some (.pointer (at0 b0)), some (.pointer (at0 b1))], h') ∧ Own base 65 h' (at0 b1) (acV pid pc ao' 8 none 0 none 0) ∧ Own base 39 h' ao' vs' ∧ vs'.length = 8 * 4 ∧ Chunks 4 (TmG base (f + 1)) T' h' (newRegs t 7) vs' ∧
   (∀ b, T' b → lo ≤ b ∧ b < h'.length ∧ b ≠ b1) ∧ (∀ b, blk ao' b → ¬ T' b ∧ lo ≤ b ∧ b ≠ b1) ∧ KB (fun b => lo ≤ b ∧ (b = b1 ∨ blk ao b ∨ h.length ≤ b)) h h' := by
 intro d
 induction d with
 | zero =>
  intro i h ao vs T hi hb1 oa ow hv hc hT ha
  have hi' : i = 7 := by omega
  subst hi'
  refine ⟨h, ao, vs, T, ?_, oa, ow, hv, hc, hT, ha, KB.refl _ _⟩
  refine loop_off (by decide) ?_
  rw [B210_0_eq]
  exact ifF (by decide) rfl
 | succ d ihd =>
  intro i h ao vs T hi hb1 oa ow hv hc hT ha
  obtain ⟨oz, kz, nz⟩ := box_own (base := base) (t := 39) (h := h) (cs := termV 1 0 ⟨#[]⟩ none 0) (by omega) rfl
  generalize hhz : h ++ [some (⟨termV 1 0 ⟨#[]⟩ none 0, 39⟩ : Blk)] = hz at oz kz nz
  have ez : run (Et base) 222 [.int .i64 0] h = some (.agg (termV 1 0 ⟨#[]⟩ none 0).toArray, hz) := by
   refine Am.r222 (nw (by omega) rfl fun y ey => ?_)
   rw [hhz] at ey
   subst ey
   exact q4 oz rfl
  have oaz := oa.keepN kz
  obtain ⟨a3, h3, e3, o3, k3, b3, n3⟩ := Am.app1 (bytes := 56) (ow.keepN kz) (n := i + 1) (sz := 4) (cs := termV 1 0 ⟨#[]⟩ none 0) hv rfl (by decide) rfl (by omega) (by omega) (by omega)
  have oa3 := oaz.keep k3 fun b hb hk => by rw [blk_at0] at hb; exact (ha b hk).2.2 hb
  obtain ⟨h4, w4, oa4, k4, l4⟩ := oa3.wr0 (i := 2) (new := [.slice a3 (i + 1 + 1) (i + 1 + 1)]) (by simp) (by simp)
  have hset : setAt (acV pid pc ao (i + 1) none 0 none 0) 2 [.slice a3 (i + 1 + 1) (i + 1 + 1)] = acV pid pc a3 (i + 1 + 1) none 0 none 0 := rfl
  rw [hset] at oa4
  have hao : ∀ b, blk ao b → b < h.length := fun b hb => (ow.lt hb).2
  have ch := (((hc.keep (TmG.kp _ _) kz fun _ _ h => h).snoc (vs' := vs ++ termV 1 0 ⟨#[]⟩ none 0) (S' := T) (T := fun _ => False) (tm0D (f := f)) (fun _ h => h.elim) (fun b hb => hb) (fun _ h => h.elim) (fun q hq => chunk_app_other (by rw [newRegs_len] at hq; have := mul_le' (w := 4) hq; omega)) (by
   rw [newRegs_len]
   exact chunk_app_self rfl hv)).keep (TmG.kp _ _) k3 (fun b hb hk => (ha b hk).1 hb)).keep (TmG.kp _ _) k4 (fun b hb hk => (hT b hb).2.2 hk)
  have o4 := o3.keepB k4 fun b hb => by have := b3 b hb; omega
  have k04 : KB (fun b => blk ao b ∨ b = b1) h h4 := KB.trans (KB.trans kz k3 (fun _ _ h => h.elim) (fun _ _ h => h)) k4 (fun _ _ h => .inl h) (fun _ _ h => .inr h)
  obtain ⟨h5, a5, vs5, T5, y1, y2, y3, y4, y5, y6, y7, y8⟩ := ihd (i + 1) h4 a3 (vs ++ termV 1 0 ⟨#[]⟩ none 0) T (by omega) (by omega) oa4 o4 (by simp; omega) ch (fun b hb => by have := hT b hb; exact ⟨this.1, by omega, this.2.2⟩) (fun b hb => by
   have := b3 b hb
   subst this
   exact ⟨fun hb => by have := hT _ hb; omega, by omega, by omega⟩)
  refine ⟨h5, a5, vs5, T5, ?_, y2, y3, y4, y5, y6, y7, KB.trans k04 y8 (fun b _ hb => ?_) (fun b hbl hb => ?_)⟩
  ·refine loop_on ?_ y1
   rw [B210_0_eq]
   refine ifT (decide_eq_true (by omega)) (bS (oa.at0 (i := 2) rfl) (bs ez (bs (v := termV 1 0 ⟨#[]⟩ none 0) rfl (bI rfl (bI rfl (bT rfl (bS rfl ?_)))))))
   rw [gate_pos (same_keep kz (oa.at0 (i := 2) rfl)), gate_pos (by
    intro x hx
    injection hx with hx
    subst hx
    show b1 ≠ hz.length
    omega)]
   refine lets fun y ey => ?_
   subst ey
   refine bs e3 (bS rfl (bs w4 ?_))
   rw [w64i (n := ((i + 1 : Nat) : Int) + 1) (by omega) (by omega)]
   rfl
  ·rcases hb with hb | hb
   ·exact ⟨(ha b hb).2.1, .inr (.inl hb)⟩
   ·exact ⟨by omega, .inl hb⟩
  ·refine ⟨hb.1, ?_⟩
   rcases hb.2 with hb | hb | hb
   ·exact .inl hb
   ·have := b3 b hb; omega
   ·omega
theorem newOk_join {base f b0 b1 F : Nat} (hF : ∀ (h : AH) (p : Nat → Prop) (k n : Int) (s : ByteArray) (a : Option Addr) (m : Nat) (t : Tm), TmR h p f t (termV k n s a m) → base ≤ h.length → ∃ h', run (Et base) F [.agg (termV k n s a m).toArray] h = some (.bool (tOk f t), h') ∧ KB NoB h h') {h : AH} {p : Nat → Prop} {t : Tm} {pid pc k n : Int} {s : ByteArray} {a : Option Addr} {m : Nat} (hb : base ≤ h.length) (o : Own base 39 h (at0 b0) (termV k n s a m)) (ht : TmR h p f t (termV k n s a m)) :
  ∃ h', (if (!inB pid 1 99999) = true then
some (.inl ([some (.int .i64 pid), some (.int .i64 pc), some (.pointer (at0 b0)), some (.pointer (at0 b1)), some (.bool true)], h))
else
(if (decide (pc < (0 : Int))) = true then
some (.inl ([some (.int .i64 pid), some (.int .i64 pc), some (.pointer (at0 b0)), some (.pointer (at0 b1)), some (.bool true)], h))
else
((cell h b0 0).bind (getI .i64)).bind fun n6 =>
((cell h b0 1).bind (getI .i64)).bind fun n7 =>
((cell h b0 2).bind getStr).bind fun s8 =>
((cell h b0 3).bind getS).bind fun l9 =>
(run (Et base) F [(.agg #[(.int .i64 n6), (.int .i64 n7), (.string s8), (.slice l9.1 l9.2 l9.2)])] h).bind fun r10 =>
((some r10.1).bind getB).bind fun b11 =>
some (.inl ([some (.int .i64 pid), some (.int .i64 pc), some (.pointer (at0 b0)), some (.pointer (at0 b1)), some (.bool (!b11))], r10.2)))) = some (Sum.inl (([some (.int .i64 pid), some (.int .i64 pc), some (.pointer (at0 b0)), some (.pointer (at0 b1)), some (.bool (!newOk f pid pc t))], h') : Slots × AH) : Sum (Slots × AH) (Value × AH)) ∧ KB NoB h h' := by
 unfold newOk
 cases c1 : inB pid 1 99999 with
 | false => exact ⟨h, ifT rfl rfl, KB.refl _ _⟩
 | true =>
  cases c2 : decide (pc < 0) with
  | true => exact ⟨h, ifF (by decide) (ifT rfl rfl), KB.refl _ _⟩
  | false =>
   obtain ⟨h', e, k⟩ := hF h p k n s a m t ht hb
   refine ⟨h', ifF (by decide) (ifF (by decide) (q4 o (bs e (bB rfl ?_)))), k⟩
   simp
theorem newTail {base f : Nat} {h h1 : AH} {t : Tm} {pid pc : Int} {a : Option Addr} {n : Nat} (hb : base ≤ h.length) (hk : KB NoB h h1) {ad : Option Addr} {vs : List Value} {T : Fp} (hn : n = (newRegs t 7).length) (ow : Own base 39 h1 ad vs) (hv : vs.length = 8 * 4) (hc : Chunks 4 (TmG base (f + 1)) T h1 (newRegs t 7) vs) (hT : ∀ b, T b → h.length ≤ b ∧ b < h1.length) (ha : ∀ b, blk ad b → ¬ T b ∧ h.length ≤ b) :
  AcG base (f + 1) (iS h.length h1.length) h1 ⟨pid, pc, newRegs t 7, [], []⟩ (acV pid pc ad 8 none 0 none 0) := by
 have hl := newRegs_len t 7
 refine ⟨ad, none, none, iS h.length h1.length, fun _ => False, fun _ => False, by simp only [hl]; rfl, ⟨vs, T, ow, by rw [hl]; exact hv, fun b hb' => ⟨⟨(ha b hb').2, (ow.lt hb').2⟩, (ha b hb').1⟩, fun b hb' => hT b hb', hc⟩, RowO.nil, .inl ⟨rfl, rfl⟩, fun x hx => ?_, fun _ h => h, fun _ h => h.elim, fun _ h => h.elim, fun _ _ h => h, fun _ _ h => h, fun _ _ h => h⟩
 obtain ⟨_, e, _⟩ := hx
 cases e
def NewRun (base f F : Nat) : Prop := ∀ (h : AH) (p : Nat → Prop) (t : Tm) (cs : List Value) (pid pc : Int), TmR h p (f + 1) t cs → TmB (f + 1) t → base ≤ h.length → (∀ b, p b → b < h.length) →
  ∃ cs' h', run (Et base) F [.int .i64 pid, .int .i64 pc, .agg cs.toArray] h = some (.agg cs'.toArray, h') ∧ AcG base (f + 1) (iS h.length h'.length) h' (newA (f + 1) pid pc t) cs' ∧ KB NoB h h'
theorem zeroD {base f : Nat} {S : Fp} {h : AH} : AcG base f S h ⟨0, 0, [], [], []⟩ (acV 0 0 none 0 none 0 none 0) := by
 refine ⟨none, none, none, fun _ => False, fun _ => False, fun _ => False, rfl, RowO.nil, RowO.nil, .inl ⟨rfl, rfl⟩, fun x hx => ?_, fun _ h => h.elim, fun _ h => h.elim, fun _ h => h.elim, fun _ _ h => h, fun _ _ h => h, fun _ _ h => h⟩
 obtain ⟨_, e, _⟩ := hx
 cases e
end Go.Proofs.Ytjmkbglnjklbcaa.Am
set_option linter.unusedSimpArgs false
set_option linter.unusedVariables false
namespace Go.Proofs.Ytjmkbglnjklbcaa.Am
open Go Go.RowKit
theorem specNew_run {base f : Nat} : NewRun base f 210 := by
 intro h p t cs pid pc hm hB hb hp
 obtain ⟨k, n, s, a, m, rfl⟩ := hm.form
 obtain ⟨o1, k1, q1⟩ := box_own (base := base) (t := 39) (h := h) (cs := termV k n s a m) hb rfl
 generalize hh1 : h ++ [some (⟨termV k n s a m, 39⟩ : Blk)] = h1 at o1 k1 q1
 obtain ⟨o2, k2, q2⟩ := box_own (base := base) (t := 65) (h := h1) (cs := acV 0 0 none 0 none 0 none 0) (by omega) rfl
 generalize hh2 : h1 ++ [some (⟨acV 0 0 none 0 none 0 none 0, 65⟩ : Blk)] = h2 at o2 k2 q2
 have k02 := kN k1 k2
 obtain ⟨h3, e3, k3⟩ := newOk_join (base := base) (f := f + 1) (F := 70) (b1 := h1.length) (pid := pid) (pc := pc) (fun h p k n s a m t x y => specTermOk_run x y) (by omega) (o1.keepN k2) (TmR.keep k02 (fun _ _ h => h) _ _ _ hm)
 have n3 := k3.1
 have k03 := kN k02 k3
 have o13 := (o1.keepN k2).keepN k3
 have o23 := o2.keepN k3
 cases c : newOk (f + 1) pid pc t with
 | false =>
  rw [c] at e3
  obtain ⟨h4, w4, o4, k4, l4⟩ := o23.wr0 (i := 0) (new := acV 0 0 none 0 none 0 none 0) (by simp) (by simp)
  have hset : setAt (acV 0 0 none 0 none 0 none 0) 0 (acV 0 0 none 0 none 0 none 0) = acV 0 0 none 0 none 0 none 0 := rfl
  rw [hset] at o4
  refine ⟨acV 0 0 none 0 none 0 none 0, h4, Am.r210 (lets fun y ey => ?_), by unfold newA; rw [c]; exact zeroD, kFresh k03 k4 fun i hi => by omega⟩
  rw [hh1] at ey
  subst ey
  refine lets fun y ey => ?_
  rw [hh2] at ey
  subst ey
  refine bj _ (bs l1In_run (bB rfl e3)) (bI rfl (bI rfl (bs rfl (bs rfl (bB rfl (ifT rfl (bs w4 (q5 o4 rfl))))))))
 | true =>
  rw [c] at e3
  obtain ⟨cs4, h4, e4, m4, k4⟩ := l1CopyG_run (base := base) (f + 1) h3 p t _ (TmR.keep k03 (fun _ _ h => h) _ _ _ hm) hB (by omega) (fun b hb => by have := hp b hb; omega)
  obtain ⟨kk, nn, ss, aa, mm, rfl⟩ := m4.form
  have n4 := k4.1
  obtain ⟨o5, k5, q5'⟩ := box_own (base := base) (t := 39) (h := h4) (cs := termV kk nn ss aa mm) (by omega) rfl
  generalize hh5 : h4 ++ [some (⟨termV kk nn ss aa mm, 39⟩ : Blk)] = h5 at o5 k5 q5'
  obtain ⟨o6, k6, q6'⟩ := box_own (base := base) (t := 65) (h := h5) (cs := acV pid pc (at0 h4.length) 1 none 0 none 0) (by omega) rfl
  generalize hh6 : h5 ++ [some (⟨acV pid pc (at0 h4.length) 1 none 0 none 0, 65⟩ : Blk)] = h6 at o6 k6 q6'
  have ch : Chunks 4 (TmG base (f + 1)) (iS h3.length h4.length) h6 (newRegs t 0) (termV kk nn ss aa mm) := by
   have := (Chunks.nil (w := 4) (P := TmG base (f + 1)) (S := fun _ => False) (h := h6) (vs := [])).snoc (S' := iS h3.length h4.length) (vs' := termV kk nn ss aa mm) (((TmG.kp _ _ _ _ _ _ _ _ k5 (fun _ _ h => h) m4)) |> fun z => TmG.kp _ _ _ _ _ _ _ _ k6 (fun _ _ h => h) z) (fun _ _ h => h) (fun _ h => h.elim) (fun _ h => h) (fun i hi => by simp at hi) rfl
   exact this
  obtain ⟨h7, ao, vs, T, e7, o7, ow7, hv7, hc7, hT7, ha7, k7⟩ := specNew_loop (base := base) (f := f) (b0 := h1.length) (b1 := h5.length) (t := t) (pid := pid) (pc := pc) (lo := h3.length) (by omega) (by omega) 7 0 h6 (at0 h4.length) (termV kk nn ss aa mm) (iS h3.length h4.length) (by omega) (by omega) o6 (o5.keepN k6) rfl ch (fun b hb => by constructor <;> omega) (fun b hb => by rw [blk_at0] at hb; subst hb; exact ⟨fun h => by omega, by omega, by omega⟩)
  have n7 := k7.1
  have o27 := (((o23.keepN k4).keepN k5).keepN k6).keep k7 fun b hb hk => by rw [blk_at0] at hb; omega
  obtain ⟨h8, w8, o8, k8, l8⟩ := o27.wr0 (i := 0) (new := acV pid pc ao 8 none 0 none 0) (by simp) (by simp)
  have hset : setAt (acV 0 0 none 0 none 0 none 0) 0 (acV pid pc ao 8 none 0 none 0) = acV pid pc ao 8 none 0 none 0 := rfl
  rw [hset] at o8
  have k06 := kN (kN (kN k03 k4) k5) k6
  have k08 : KB NoB h h8 := kFresh (kFresh k06 k7 fun i hi => by omega) k8 fun i hi => by omega
  refine ⟨acV pid pc ao 8 none 0 none 0, h8, Am.r210 (lets fun y ey => ?_), ?_, k08⟩
  ·rw [hh1] at ey
   subst ey
   refine lets fun y ey => ?_
   rw [hh2] at ey
   subst ey
   refine bj _ (bs l1In_run (bB rfl e3)) (bI rfl (bI rfl (bs rfl (bs rfl (bB rfl (ifF (by decide) (q4 o13 (bs e4 ?_))))))))
   refine bs (v := termV kk nn ss aa mm) rfl (bI rfl (bI rfl (bT rfl (bS rfl (lets fun y ey => ?_)))))
   rw [hh5] at ey
   subst ey
   refine nw (by omega) rfl fun y ey => ?_
   rw [hh6] at ey
   subst ey
   refine bs e7 (ifT rfl (bs rfl (bs rfl (q5 o7 (bs w8 (q5 o8 rfl))))))
  ·unfold newA
   rw [c, if_pos rfl]
   exact newTail (a := none) hb k08 (newRegs_len t 7).symm (ow7.keepB k8 fun b hb => by have := (ha7 b hb).2.1; omega) hv7 (hc7.keep (TmG.kp _ _) k8 fun b hb hk => by have := hT7 b hb; omega) (fun b hb => by have := hT7 b hb; constructor <;> omega) (fun b hb => ⟨(ha7 b hb).1, by have := (ha7 b hb).2.1; omega⟩)
end Go.Proofs.Ytjmkbglnjklbcaa.Am
set_option linter.unusedSimpArgs false
set_option linter.unusedVariables false
namespace Go.Proofs.Ytjmkbglnjklbcaa.Am
open Go Go.RowKit
end Go.Proofs.Ytjmkbglnjklbcaa.Am
set_option linter.unusedSimpArgs false
set_option linter.unusedVariables false
namespace Go.Proofs.Ytjmkbglnjklbcaa.Am
open Go Go.RowKit
end Go.Proofs.Ytjmkbglnjklbcaa.Am
set_option linter.unusedSimpArgs false
set_option linter.unusedVariables false
namespace Go.Proofs.Ytjmkbglnjklbcaa.Am
open Go Go.RowKit
theorem RowO.snoc {α : Type} {w : Nat} {P : Fp → AH → α → List Value → Prop} (kp : Kp P) {base t bytes : Nat} {S C : Fp} {h : AH} {l : List α} {a : Option Addr} (x : RowO base t w P S h l a) {y : α} {cs : List Value} (hy : P C h y cs) (hc : cs.length = w) (hw : 0 < w) (hlf : cs.all leaf = true) (hC : ∀ b, C b → ¬ S b) (hCb : ∀ b, C b → b < h.length) (hSb : ∀ b, S b → b < h.length) (hb : base ≤ h.length) (h1 : (l.length + 1) * bytes ≤ 140737488355328) (h2 : l.length + 1 ≤ 9223372036854775807) :
  ∃ a' h', Am.app base (h ++ [some ⟨cs, t⟩]) t w bytes a l.length (rawAt (h ++ [some ⟨cs, t⟩]) (some ⟨h.length, 0, none⟩) (1 * w)) 1 = some (.slice a' (l.length + 1) (l.length + 1), h') ∧ RowO base t w P (fun b => S b ∨ C b ∨ (h.length ≤ b ∧ b < h'.length)) h' (l ++ [y]) a' ∧ KB (blk a) h h' ∧ h.length + 1 ≤ h'.length := by
 obtain ⟨vs, T, x1, x2, x3, x4, x5⟩ := x
 obtain ⟨a', h', e, o, k, d, n⟩ := Am.app1 (bytes := bytes) x1 x2 hc hw hlf hb h1 h2
 refine ⟨a', h', e, ⟨vs ++ cs, fun b => T b ∨ C b, o, by simp [hc, x2, Nat.add_one_mul], fun b hb' => ?_, fun b hb' => hb'.elim (fun hb' => .inl (x4 b hb')) fun hb' => .inr (.inl hb'), ?_⟩, k, n⟩
 ·have e := d b hb'
  have lt := (o.lt hb').2
  subst e
  refine ⟨.inr (.inr ⟨by omega, lt⟩), fun hh => ?_⟩
  rcases hh with hh | hh
  ·have := hSb _ (x4 _ hh); omega
  ·have := hCb _ hh; omega
 ·have c := x5.snoc (vs' := vs ++ cs) (S' := fun b => T b ∨ C b) hy (fun b hb hb' => hC b hb (x4 b hb')) (fun b hb => .inl hb) (fun b hb => .inr hb) (fun q hq => chunk_app_other (by have := mul_le' (w := w) hq; omega)) (chunk_app_self hc x2)
  refine c.keep kp k fun b hb hk => ?_
  rcases hb with hb | hb
  ·exact (x3 b hk).2 hb
  ·exact hC b hb (x3 b hk).1
end Go.Proofs.Ytjmkbglnjklbcaa.Am
set_option linter.unusedSimpArgs false
set_option linter.unusedVariables false
namespace Go.Proofs.Ytjmkbglnjklbcaa.Am
open Go Go.RowKit
theorem W.s6 {β : Type} {Q : β → Prop} {h : AH} {p : Nat → Prop} {g : Nat} {l : List Sd} {a : Option Addr} (hs : SsR h p g l a) {i : Nat} (hi : i < l.length) {f : Int → Int → Int → Int → ByteArray → Option Addr × Nat → Option β} (w : ∀ k n s a2 m, TmR h p g l[i].t (termV k n s a2 m) → Wp (f l[i].kind l[i].pid k n s (a2, m)) Q) :
  Wp (a.bind fun ad => ((Am.cell h ad.block (ad.off + i * 6)).bind (getI .i64)).bind fun n1 => ((Am.cell h ad.block (ad.off + i * 6 + 1)).bind (getI .i64)).bind fun n2 => ((Am.cell h ad.block (ad.off + i * 6 + 1 + 1)).bind (getI .i64)).bind fun n3 => ((Am.cell h ad.block (ad.off + i * 6 + 1 + 1 + 1)).bind (getI .i64)).bind fun n4 => ((Am.cell h ad.block (ad.off + i * 6 + 1 + 1 + 1 + 1)).bind getStr).bind fun s5 => ((Am.cell h ad.block (ad.off + i * 6 + 1 + 1 + 1 + 1 + 1)).bind getS).bind fun l6 => f n1 n2 n3 n4 s5 l6) Q := by
 obtain ⟨ad, k, n, s, a2, m, rfl, _, g0, g1, g2, g3, g4, g5, hm⟩ := hs.get hi
 exact W.bs rfl (W.bI g0 (W.bI g1 (W.bI g2 (W.bI g3 (W.bT g4 (W.bS g5 (w k n s a2 m hm)))))))
theorem W.ra {β : Type} {Q : β → Prop} {h : AH} {p : Nat → Prop} {g : Nat} {l : List Ac} {a : Option Addr} (hs : AsR h p g l a) {i : Nat} (hi : i < l.length) {f : Int → Int → Option Addr × Nat → Option Addr × Nat → Option Addr × Nat → Option β} (w : ∀ a b c, AcR h p g l[i] (acV l[i].pid l[i].pc a l[i].regs.length b l[i].box.length c l[i].links.length) → Wp (f l[i].pid l[i].pc (a, l[i].regs.length) (b, l[i].box.length) (c, l[i].links.length)) Q) :
  Wp (a.bind fun ad => ((Am.cell h ad.block (ad.off + i * 5)).bind (getI .i64)).bind fun n1 => ((Am.cell h ad.block (ad.off + i * 5 + 1)).bind (getI .i64)).bind fun n2 => ((Am.cell h ad.block (ad.off + i * 5 + 1 + 1)).bind getS).bind fun l3 => ((Am.cell h ad.block (ad.off + i * 5 + 1 + 1 + 1)).bind getS).bind fun l4 => ((Am.cell h ad.block (ad.off + i * 5 + 1 + 1 + 1 + 1)).bind getS).bind fun l5 => f n1 n2 l3 l4 l5) Q := by
 obtain ⟨ad, a, b, c, rfl, _, g0, g1, g2, g3, g4, hm, _⟩ := hs.get hi
 exact W.bs rfl (W.bI g0 (W.bI g1 (W.bS g2 (W.bS g3 (W.bS g4 (w a b c hm))))))
end Go.Proofs.Ytjmkbglnjklbcaa.Am
set_option linter.unusedSimpArgs false
set_option linter.unusedVariables false
namespace Go.Proofs.Ytjmkbglnjklbcaa.Am
open Go Go.RowKit
end Go.Proofs.Ytjmkbglnjklbcaa.Am
set_option linter.unusedSimpArgs false
set_option linter.unusedVariables false
namespace Go.Proofs.Ytjmkbglnjklbcaa.Am
open Go Go.RowKit
end Go.Proofs.Ytjmkbglnjklbcaa.Am
set_option linter.unusedSimpArgs false
set_option linter.unusedVariables false
namespace Go.Proofs.Ytjmkbglnjklbcaa.Am
open Go Go.RowKit
end Go.Proofs.Ytjmkbglnjklbcaa.Am
set_option linter.unusedSimpArgs false
set_option linter.unusedVariables false
namespace Go.Proofs.Ytjmkbglnjklbcaa.Am
open Go Go.RowKit
end Go.Proofs.Ytjmkbglnjklbcaa.Am
set_option linter.unusedSimpArgs false
set_option linter.unusedVariables false
namespace Go.Proofs.Ytjmkbglnjklbcaa.Am
open Go Go.RowKit
end Go.Proofs.Ytjmkbglnjklbcaa.Am
set_option linter.unusedSimpArgs false
set_option linter.unusedVariables false
namespace Go.Proofs.Ytjmkbglnjklbcaa.Am
open Go Go.RowKit
end Go.Proofs.Ytjmkbglnjklbcaa.Am
set_option linter.unusedSimpArgs false
set_option linter.unusedVariables false
namespace Go.Proofs.Ytjmkbglnjklbcaa.Am
open Go Go.RowKit
end Go.Proofs.Ytjmkbglnjklbcaa.Am
set_option linter.unusedSimpArgs false
set_option linter.unusedVariables false
namespace Go.Proofs.Ytjmkbglnjklbcaa.Am
open Go Go.RowKit
end Go.Proofs.Ytjmkbglnjklbcaa.Am
set_option linter.unusedSimpArgs false
set_option linter.unusedVariables false
namespace Go.Proofs.Ytjmkbglnjklbcaa.Am
open Go Go.RowKit
end Go.Proofs.Ytjmkbglnjklbcaa.Am
set_option linter.unusedSimpArgs false
set_option linter.unusedVariables false
namespace Go.Proofs.Ytjmkbglnjklbcaa.Am
open Go Go.RowKit
theorem p0 : (128 : Int) ^ 0 = 1 := by decide
theorem p1 : (128 : Int) ^ 1 = 128 := by decide
theorem p2 : (128 : Int) ^ 2 = 16384 := by decide
end Go.Proofs.Ytjmkbglnjklbcaa.Am
set_option linter.unusedSimpArgs false
set_option linter.unusedVariables false
namespace Go.Proofs.Ytjmkbglnjklbcaa.Am
open Go Go.RowKit
theorem bstr_go (ns : List Int) : ∀ r : ByteArray, (ns.foldl (fun r n => r.push (UInt8.ofNat n.toNat)) r).data.toList = r.data.toList ++ ns.map fun n => UInt8.ofNat n.toNat := by
 induction ns with
 | nil => intro r; simp
 | cons n ns ih =>
  intro r
  rw [List.foldl_cons, ih]
  simp [ByteArray.push]
theorem bstr_data (ns : List Int) : (bstr ns).data.toList = ns.map fun n => UInt8.ofNat n.toNat := by
 unfold bstr
 rw [bstr_go]
 rfl
theorem bstr_size (ns : List Int) : (bstr ns).size = ns.length := by
 have := congrArg List.length (bstr_data ns)
 simpa using this
theorem sb_bstr {ns : List Int} (h : ∀ x ∈ ns, 0 ≤ x ∧ x ≤ 255) : sb (bstr ns) = ns := by
 unfold sb
 rw [bstr_data, List.map_map]
 conv => rhs; rw [← List.map_id ns]
 apply List.map_congr_left
 intro x hx
 have := h x hx
 simp only [Function.comp_apply, id_eq, UInt8.toNat_ofNat']
 omega
theorem toList_go (s : ByteArray) : ∀ (d i : Nat) (r : List UInt8), i + d = s.size → ByteArray.toList.loop s i r = r.reverse ++ s.data.toList.drop i := by
 intro d
 induction d with
 | zero =>
  intro i r h
  rw [ByteArray.toList.loop, if_neg (by omega), List.drop_eq_nil_of_le (by simp; omega)]
  simp
 | succ d ih =>
  intro i r h
  have hlt : i < s.size := by omega
  rw [ByteArray.toList.loop, if_pos hlt, ih (i + 1) _ (by omega)]
  have hl : i < s.data.toList.length := by simpa using hlt
  rw [List.drop_eq_getElem_cons hl]
  simp [ByteArray.get!, hlt]
theorem toList_data (s : ByteArray) : s.toList = s.data.toList := by
 unfold ByteArray.toList
 rw [toList_go s s.size 0 [] (by omega)]
 simp
theorem bstr_inj {xs ys : List Int} (hx : ∀ x ∈ xs, 0 ≤ x ∧ x ≤ 255) (hy : ∀ x ∈ ys, 0 ≤ x ∧ x ≤ 255) : ((bstr xs).toList == (bstr ys).toList) = decide (xs = ys) := by
 by_cases c : xs = ys
 ·subst c; simp
 ·rw [decide_eq_false c]
  rw [toList_data, toList_data]
  by_cases d : (bstr xs).data.toList = (bstr ys).data.toList
  ·exfalso
   apply c
   have e : bstr xs = bstr ys := ByteArray.ext (Array.toList_inj.1 d)
   rw [← sb_bstr hx, ← sb_bstr hy, e]
  ·exact beq_eq_false_iff_ne.2 d
end Go.Proofs.Ytjmkbglnjklbcaa.Am
set_option linter.unusedSimpArgs false
set_option linter.unusedVariables false
namespace Go.Proofs.Ytjmkbglnjklbcaa.Am
open Go Go.RowKit
end Go.Proofs.Ytjmkbglnjklbcaa.Am
set_option linter.unusedSimpArgs false
set_option linter.unusedVariables false
namespace Go.Proofs.Ytjmkbglnjklbcaa.Am
open Go Go.RowKit
end Go.Proofs.Ytjmkbglnjklbcaa.Am
set_option linter.unusedSimpArgs false
set_option linter.unusedVariables false
namespace Go.Proofs.Ytjmkbglnjklbcaa.Am
open Go Go.RowKit
end Go.Proofs.Ytjmkbglnjklbcaa.Am
set_option linter.unusedSimpArgs false
set_option linter.unusedVariables false
namespace Go.Proofs.Ytjmkbglnjklbcaa.Am
open Go Go.RowKit
theorem Hs.takeD {base : Nat} {W : Fp} {h0 h : AH} {D : Ds} {R : List Rs} (d : Hs base W h0 h D R) (n : Nat) : Hs base W h0 h (D.take n) R :=
 ⟨d.ge, d.kb, fun x hx => d.own x (List.mem_of_mem_take hx), by rw [List.map_take]; exact d.nd.sublist (List.take_sublist _ _), fun r hr => by
  obtain ⟨r1, r2, r3, r4, r5⟩ := d.res r hr
  exact ⟨r1, r2, r3, r4, fun x hx => r5 x (List.mem_of_mem_take hx)⟩, d.dj⟩
end Go.Proofs.Ytjmkbglnjklbcaa.Am
set_option linter.unusedSimpArgs false
set_option linter.unusedVariables false
namespace Go.Proofs.Ytjmkbglnjklbcaa.Am
open Go Go.RowKit
def RdA (base : Nat) (oa ya : Option Addr) (G : Gn) (aa : Option Addr) (ats : List ByteArray) (h : AH) : Prop :=
 TyOk base h oa 3 ∧ TyOk base h ya 3 ∧ TyOk base h aa 9 ∧ GnS h oa ya G ∧ Sl h aa (ats.map .string)
theorem RdA.keep {base : Nat} {oa ya : Option Addr} {G : Gn} {aa : Option Addr} {ats : List ByteArray} {U : Fp} {h h' : AH} (x : RdA base oa ya G aa ats h) (k : KB U h h') (hS : ∀ b, blk oa b ∨ blk ya b ∨ blk aa b → ¬ U b) : RdA base oa ya G aa ats h' := by
 obtain ⟨a, b, c, ⟨d, e⟩, f⟩ := x
 exact ⟨a.keep k fun i hi => hS i (.inl hi), b.keep k fun i hi => hS i (.inr (.inl hi)), c.keep k fun i hi => hS i (.inr (.inr hi)), ⟨d.keep k fun i hi => hS i (.inl hi), e.keep k fun i hi => hS i (.inr (.inl hi))⟩, f.keep k fun i hi => hS i (.inr (.inr hi))⟩
theorem RdA.keepN {base : Nat} {oa ya : Option Addr} {G : Gn} {aa : Option Addr} {ats : List ByteArray} {h h' : AH} (x : RdA base oa ya G aa ats h) (k : KB NoB h h') : RdA base oa ya G aa ats h' := x.keep k fun _ _ h => h
theorem TyOk.lt {base t : Nat} {h : AH} {a : Option Addr} (x : TyOk base h a t) : ∀ b, blk a b → b < h.length := fun b ⟨ad, e, e2⟩ => e2 ▸ (x ad e).1
theorem RdA.lt {base : Nat} {oa ya : Option Addr} {G : Gn} {aa : Option Addr} {ats : List ByteArray} {h : AH} (x : RdA base oa ya G aa ats h) : ∀ b, blk oa b ∨ blk ya b ∨ blk aa b → b < h.length := by
 obtain ⟨a, b, c, _⟩ := x
 rintro i (hi | hi | hi)
 ·exact a.lt i hi
 ·exact b.lt i hi
 ·exact c.lt i hi
end Go.Proofs.Ytjmkbglnjklbcaa.Am
set_option linter.unusedSimpArgs false
set_option linter.unusedVariables false
namespace Go.Proofs.Ytjmkbglnjklbcaa.Am
open Go Go.RowKit
abbrev rArg (base : Nat) (hX : AH) : Rs := ⟨fun b => b < base, false, fun y => base ≤ y.length ∧ ∀ b, b < base → hget y b = hget hX b⟩
def CurK (base cb : Nat) (hX : AH) (y : AH) : Prop := ∃ (a : Option Addr) (zs : List Int) (i hh : Int), Own base 181 y (at0 cb) [.slice a zs.length zs.length, .int .i64 i, .int .i64 hh] ∧ Sl hX a (iv .u8 zs) ∧ (zs = [] ∨ ∀ b, blk a b → b < base) ∧ zs.length ≤ 9223372036854775806 ∧ 0 ≤ i
abbrev rCur (base cb : Nat) (hX : AH) : Rs := ⟨fun b => b = cb, true, CurK base cb hX⟩
theorem Sl.other {base : Nat} {h h' : AH} {a : Option Addr} {zs : List Int} (s : Sl h a (iv .u8 zs)) (hz : zs = [] ∨ ∀ b, blk a b → b < base) (e : ∀ b, b < base → hget h' b = hget h b) : Sl h' a (iv .u8 zs) := by
 rcases hz with hz | hz
 ·subst hz; exact .inl rfl
 ·rcases s with s | ⟨ad, k, e1, e2, e3, e4⟩
  ·exact .inl s
  ·exact .inr ⟨ad, k, e1, by rw [e _ (hz _ ⟨ad, e1, rfl⟩)]; exact e2, e3, e4⟩
theorem CurR.k {base cb : Nat} {hX y : AH} (x : CurR base cb y) (e : ∀ b, b < base → hget y b = hget hX b) : CurK base cb hX y := by
 obtain ⟨a, zs, i, hh, o, s, hz, hl, hi⟩ := x
 exact ⟨a, zs, i, hh, o, s.other hz fun b hb => (e b hb).symm, hz, hl, hi⟩
theorem CurK.r {base cb : Nat} {hX y : AH} (x : CurK base cb hX y) (e : ∀ b, b < base → hget y b = hget hX b) : CurR base cb y := by
 obtain ⟨a, zs, i, hh, o, s, hz, hl, hi⟩ := x
 exact ⟨a, zs, i, hh, o, s.other hz e, hz, hl, hi⟩
theorem CurK.kp {base cb : Nat} {hX : AH} : ∀ (U : Fp) (h h' : AH), KB U h h' → (∀ b, b = cb → ¬ U b) → CurK base cb hX h → CurK base cb hX h' := fun U h h' k hs ⟨a, zs, i, hh, o, q⟩ => ⟨a, zs, i, hh, o.keep k fun b hb => hs b (blk_at0.1 hb), q⟩
theorem argOk {base : Nat} {hX : AH} : (rArg base hX).Ok := fun U y y' k hs q => ⟨Nat.le_trans q.1 k.1, fun b hb => by rw [k.2 b (Nat.lt_of_lt_of_le hb q.1) (hs b hb)]; exact q.2 b hb⟩
namespace Hs
variable {base : Nat} {W : Fp} {h0 h : AH} {D : Ds} {R : List Rs}
theorem startC {cb : Nat} (x : CurR base cb h) (hb : base ≤ h.length) : Hs base (· = cb) h h [] [rArg base h, rCur base cb h] := by
 refine ⟨hb, KB.refl _ _, fun x hx => (nomatch hx), by simp, fun r hr => ?_, ?_⟩
 ·simp only [List.mem_cons, List.not_mem_nil, or_false] at hr
  rcases hr with rfl | rfl
  ·exact ⟨⟨hb, fun _ _ => rfl⟩, argOk, fun b hb2 => Nat.lt_of_lt_of_le hb2 hb, fun m => (nomatch m), fun x hx => nomatch hx⟩
  ·exact ⟨x.k fun _ _ => rfl, CurK.kp, fun b hb2 => by simp only at hb2; subst hb2; exact x.lt.2, fun _ b hb2 => .inl hb2, fun x hx => nomatch hx⟩
 ·simp only [List.pairwise_cons, List.mem_cons, List.not_mem_nil, or_false]
  refine ⟨fun r hr => ?_, ?_⟩
  ·subst hr
   intro _ b h1 h2
   simp only at h1 h2
   have := x.lt.1
   omega
  ·simp
theorem cur {cb i j : Nat} {hX : AH} (d : Hs base W h0 h D R) (ej : R[j]? = some (rArg base hX)) (ei : R[i]? = some (rCur base cb hX)) : CurR base cb h := CurK.r (d.rs ei) (d.rs ej).2
theorem drawn {cb i j : Nat} {hX h' : AH} (d : Hs base W h0 h D R) (ej : R[j]? = some (rArg base hX)) (ei : R[i]? = some (rCur base cb hX)) (x : CurR base cb h') (k : KB (· = cb) h h') : Hs base W h0 h' D R := by
 have hcb := x.lt.1
 have e : ∀ b, b < base → hget h' b = hget hX b := fun b hb => by
  have q := d.rs ej
  rw [k.2 b (Nat.lt_of_lt_of_le hb q.1) (by omega)]
  exact q.2 b hb
 have d1 := d.upd (r := rCur base cb hX) (r' := rCur base cb hX) (Upd.at ei) rfl rfl k (fun b hb => .inl hb) (x.k e) CurK.kp (fun b hb => .inl hb)
 have : R.set i (rCur base cb hX) = R := by
  obtain ⟨hi, e⟩ := List.getElem?_eq_some_iff.1 ei
  rw [← e, List.set_getElem_self]
 rwa [this] at d1
theorem drawC {cb i j : Nat} {hX h' : AH} (d : Hs base W h0 h D R) (ej : R[j]? = some (rArg base hX)) (ei : R[i]? = some (rCur base cb hX)) (x : CurR base cb h') (k : KB (· = cb) h h') (S : Fp) (A : AH → Prop) (hA : A h') (ok : ∀ (U : Fp) (h h' : AH), KB U h h' → (∀ b, S b → ¬ U b) → A h → A h') (hS : ∀ b, S b → h.length ≤ b ∧ b < h'.length) : Hs base W h0 h' D (R ++ [⟨S, true, A⟩]) := by
 have d' := d.drawn ej ei x k
 refine ⟨d'.ge, d'.kb, d'.own, d'.nd, fun r hr => ?_, ?_⟩
 ·rcases List.mem_append.1 hr with hr | hr
  ·exact d'.res r hr
  ·rw [List.mem_singleton] at hr
   subst hr
   refine ⟨hA, ok, fun b hb => (hS b hb).2, fun _ b hb => .inr ?_, fun x hx hS' => ?_⟩
   ·have := (hS b hb).1
    have := d.kb.1
    omega
   ·have := ((d.own x hx).1.lt (blk_at0.2 rfl)).2
    have := (hS _ hS').1
    omega
 ·rw [List.pairwise_append]
  refine ⟨d'.dj, by simp, fun r hr s hs e b h1 h2 => ?_⟩
  rw [List.mem_singleton] at hs
  subst hs
  have := (d.res r hr).2.2.1 b h1
  have := (hS b h2).1
  omega
end Hs
end Go.Proofs.Ytjmkbglnjklbcaa.Am
set_option linter.unusedSimpArgs false
set_option linter.unusedVariables false
namespace Go.Proofs.Ytjmkbglnjklbcaa.Am
open Go Go.RowKit
def Tm.len : Tm → Nat
 | .mk _ _ _ l => l.length
end Go.Proofs.Ytjmkbglnjklbcaa.Am
set_option linter.unusedSimpArgs false
set_option linter.unusedVariables false
namespace Go.Proofs.Ytjmkbglnjklbcaa.Am
open Go Go.RowKit
def gwl (G : Gn) (p : Int) : List Int := if 100000 ≤ p then G.young else G.old
def gwp (p : Int) : Int := if 100000 ≤ p then p - 100000 else p
def gwB (G : Gn) (p n : Int) : Bool := inB (gwp p) 0 (gwl G p).length && inB n 0 ((gwl G p).length - gwp p)
def gws (G : Gn) (p n : Int) : List Int := if gwB G p n = true then ((gwl G p).drop (gwp p).toNat).take n.toNat else []
theorem gwB_iff {G : Gn} {p n : Int} : gwB G p n = true ↔ (0 ≤ gwp p ∧ gwp p ≤ (gwl G p).length) ∧ 0 ≤ n ∧ n ≤ (gwl G p).length - gwp p := by
 unfold gwB inB
 simp only [Bool.and_eq_true, decide_eq_true_eq]
def GnO (base : Nat) (h : AH) (oa ya : Option Addr) (G : Gn) : Prop := TyOk base h oa 3 ∧ TyOk base h ya 3 ∧ GnS h oa ya G
theorem GnO.keepN {base : Nat} {h h' : AH} {oa ya : Option Addr} {G : Gn} (x : GnO base h oa ya G) (k : KB NoB h h') : GnO base h' oa ya G := ⟨x.1.keepN k, x.2.1.keepN k, x.2.2.1.keepN k, x.2.2.2.keepN k⟩
theorem GnO.keep {base : Nat} {U : Fp} {h h' : AH} {oa ya : Option Addr} {G : Gn} (x : GnO base h oa ya G) (k : KB U h h') (hS : ∀ b, blk oa b ∨ blk ya b → ¬ U b) : GnO base h' oa ya G :=
 ⟨x.1.keep k fun i hi => hS i (.inl hi), x.2.1.keep k fun i hi => hS i (.inr hi), x.2.2.1.keep k fun i hi => hS i (.inl hi), x.2.2.2.keep k fun i hi => hS i (.inr hi)⟩
theorem GnO.lt {base : Nat} {h : AH} {oa ya : Option Addr} {G : Gn} (x : GnO base h oa ya G) : ∀ b, blk oa b ∨ blk ya b → b < h.length := fun b hb => hb.elim (x.1.lt b) (x.2.1.lt b)
def gwa (oa ya : Option Addr) (p : Int) : Option Addr := if 100000 ≤ p then ya else oa
theorem GnO.part {base : Nat} {h : AH} {oa ya : Option Addr} {G : Gn} (x : GnO base h oa ya G) (p : Int) : TyOk base h (gwa oa ya p) 3 ∧ Sl h (gwa oa ya p) (iv .i64 (gwl G p)) := by
 unfold gwa gwl
 split
 ·exact ⟨x.2.1, x.2.2.2⟩
 ·exact ⟨x.1, x.2.2.1⟩
theorem GnO.sl {base : Nat} {h : AH} {oa ya : Option Addr} {G : Gn} {p n : Int} (x : GnO base h oa ya G) (c : gwB G p n = true) : Sl h (shiftA (gwa oa ya p) (gwp p).toNat) (iv .i64 (gws G p n)) := by
 have c2 := gwB_iff.1 c
 have e2 : gws G p n = ((gwl G p).drop (gwp p).toNat).take n.toNat := by unfold gws; rw [if_pos c]
 rw [e2, iv, List.map_take, List.map_drop]
 exact (x.part p).2.part (by rw [iv_length]; omega)
end Go.Proofs.Ytjmkbglnjklbcaa.Am
set_option linter.unusedSimpArgs false
set_option linter.unusedVariables false
namespace Go.Proofs.Ytjmkbglnjklbcaa.Am
open Go Go.RowKit
end Go.Proofs.Ytjmkbglnjklbcaa.Am
set_option linter.unusedSimpArgs false
set_option linter.unusedVariables false
namespace Go.Proofs.Ytjmkbglnjklbcaa.Am
open Go Go.RowKit
end Go.Proofs.Ytjmkbglnjklbcaa.Am
set_option linter.unusedSimpArgs false
set_option linter.unusedVariables false
namespace Go.Proofs.Ytjmkbglnjklbcaa.Am
open Go Go.RowKit
end Go.Proofs.Ytjmkbglnjklbcaa.Am
set_option linter.unusedSimpArgs false
set_option linter.unusedVariables false
namespace Go.Proofs.Ytjmkbglnjklbcaa.Am
open Go Go.RowKit
end Go.Proofs.Ytjmkbglnjklbcaa.Am
set_option linter.unusedSimpArgs false
set_option linter.unusedVariables false
namespace Go.Proofs.Ytjmkbglnjklbcaa.Am
open Go Go.RowKit
end Go.Proofs.Ytjmkbglnjklbcaa.Am
set_option linter.unusedSimpArgs false
set_option linter.unusedVariables false
namespace Go.Proofs.Ytjmkbglnjklbcaa.Am
open Go Go.RowKit
end Go.Proofs.Ytjmkbglnjklbcaa.Am
set_option linter.unusedSimpArgs false
set_option linter.unusedVariables false
namespace Go.Proofs.Ytjmkbglnjklbcaa.Am
open Go Go.RowKit
end Go.Proofs.Ytjmkbglnjklbcaa.Am
set_option linter.unusedSimpArgs false
set_option linter.unusedVariables false
namespace Go.Proofs.Ytjmkbglnjklbcaa.Am
open Go Go.RowKit
end Go.Proofs.Ytjmkbglnjklbcaa.Am
set_option linter.unusedSimpArgs false
set_option linter.unusedVariables false
namespace Go.Proofs.Ytjmkbglnjklbcaa.Am
open Go Go.RowKit
def capT : Nat → Int
 | 0 => 1
 | n + 1 => 1 + 3 * capT n
theorem capT_pos : ∀ n, 1 ≤ capT n
 | 0 => by decide
 | n + 1 => by have := capT_pos n; rw [capT]; omega
def Gt (n : Nat) (t : Tm) : Prop := ∀ (F : Nat) (d x : Int), n + 1 ≤ F → (n : Int) + 1 ≤ d → capT n ≤ x → x - capT n ≤ lk F t d x
theorem Gt.leaf {k m : Int} {s : ByteArray} (h : shB k m s 0 = true) (n : Nat) : Gt n (.mk k m s []) := by
 intro F d x hF hd hx
 have := capT_pos n
 cases F with
 | zero => omega
 | succ F =>
  rw [lk, if_neg (by simp [h]; omega), lkS]
  omega
theorem Gt.lks {n : Nat} {F : Nat} {d : Int} (hF : n + 1 ≤ F) (hd : (n : Int) + 1 ≤ d) : ∀ (l : List Tm) (x : Int), (∀ t ∈ l, Gt n t) → (l.length : Int) * capT n ≤ x → x - (l.length : Int) * capT n ≤ lkS (lk F) l d x
 | [], x, _, h => by simp [lkS]
 | t :: r, x, hl, h => by
  have hc := capT_pos n
  have e : ((t :: r).length : Int) * capT n = capT n + (r.length : Int) * capT n := by rw [List.length_cons, Int.natCast_succ, Int.add_mul]; omega
  rw [e] at h ⊢
  have hr : 0 ≤ (r.length : Int) * capT n := Int.mul_nonneg (by omega) (by omega)
  have h1 := hl t (.head _) F d x hF hd (by omega)
  rw [lkS, if_pos (by omega)]
  have h2 := Gt.lks hF hd r (lk F t d x) (fun u hu => hl u (.tail _ hu)) (by omega)
  omega
theorem Gt.node {n : Nat} {k : Int} {l : List Tm} (hk : k = 4 ∨ k = 5) (hl : l.length ≤ 3) (h : ∀ t ∈ l, Gt n t) : Gt (n + 1) (.mk k 0 ⟨#[]⟩ l) := by
 intro F d x hF hd hx
 have hc := capT_pos n
 cases F with
 | zero => omega
 | succ F =>
  rw [capT] at hx ⊢
  have hs : shB k 0 ⟨#[]⟩ l.length = true := by
   have h8 : decide (((l.length : Nat) : Int) ≤ (8 : Int)) = true := by simp; omega
   have h20 : decide (((l.length : Nat) : Int) ≤ (20 : Int)) = true := by simp; omega
   rcases hk with rfl | rfl
   ·unfold shB; simp [h8]
   ·unfold shB; simp [h20]
  rw [lk, if_neg (by simp [hs]; omega)]
  have hm : (l.length : Int) * capT n ≤ 3 * capT n := Int.mul_le_mul_of_nonneg_right (by omega) (by omega)
  have := Gt.lks (F := F) (d := d - 1) (by omega) (by omega) l (x - 1) h (by omega)
  omega
theorem Gt.ok {t : Tm} (h : Gt 2 t) {F : Nat} (hF : 3 ≤ F) : tOk F t = true := decide_eq_true (by
 have := h F 6 100 (by omega) (by omega) (by decide)
 have e : capT 2 = 13 := by decide
 omega)
namespace Hs
variable {base cb : Nat} {W : Fp} {hX h0 h : AH} {D : Ds} {R : List Rs}
theorem cur0 (d : Hs base W h0 h D (rArg base hX :: rCur base cb hX :: R)) : CurR base cb h := d.cur (j := 0) (i := 1) rfl rfl
theorem drawn0 {h' : AH} (d : Hs base W h0 h D (rArg base hX :: rCur base cb hX :: R)) (x : CurR base cb h') (k : KB (· = cb) h h') : Hs base W h0 h' D (rArg base hX :: rCur base cb hX :: R) := d.drawn (j := 0) (i := 1) rfl rfl x k
theorem neC {b t : Nat} {cs : List Value} (d : Hs base W h0 h D (rArg base hX :: rCur base cb hX :: R)) (m : (b, t, cs) ∈ D) : b ≠ cb := (d.res _ (.tail _ (.head _))).2.2.2.2 _ m
theorem below {n : Int} (d : Hs base W h0 h D (rArg base hX :: rCur base cb hX :: R)) (hn : n ≤ 256) : ∃ z h', run (Et base) 158 [.pointer (at0 cb), .int .i64 n] h = some (.int .i64 z, h') ∧ 0 ≤ z ∧ (0 < n → z < n) ∧ z ≤ 255 ∧ Hs base W h0 h' D (rArg base hX :: rCur base cb hX :: R) ∧ KB (· = cb) h h' := by
 obtain ⟨z, h', e, a, b, c, x, k, _⟩ := l1Below_run (n := n) d.cur0 hn
 exact ⟨z, h', e, a, b, c, d.drawn0 x k, k⟩
theorem once {n : Int} (d : Hs base W h0 h D (rArg base hX :: rCur base cb hX :: R)) (hn : n ≤ 256) : ∃ b h', run (Et base) 155 [.pointer (at0 cb), .int .i64 n] h = some (.bool b, h') ∧ Hs base W h0 h' D (rArg base hX :: rCur base cb hX :: R) ∧ KB (· = cb) h h' := by
 obtain ⟨z, h', e, x, k, _⟩ := l1Once_run (n := n) d.cur0 hn
 exact ⟨z, h', e, d.drawn0 x k, k⟩
theorem pick {b : Nat} {zs : List Int} (d : Hs base W h0 h D (rArg base hX :: rCur base cb hX :: R)) (m : (b, 3, iv .i64 zs) ∈ D) (l0 : 0 < zs.length) (l1 : zs.length ≤ 256) : ∃ z h', run (Et base) 93 [.pointer (at0 cb), .slice (at0 b) zs.length zs.length] h = some (.int .i64 z, h') ∧ z ∈ zs ∧ Hs base W h0 h' D (rArg base hX :: rCur base cb hX :: R) ∧ KB (· = cb) h h' := by
 obtain ⟨z, h', e, a, x, k, _⟩ := l1Int_run d.cur0 (d.ol m).sl (fun c hc => by rw [blk_at0] at hc; subst hc; exact d.neC m) l0 l1
 exact ⟨z, h', e, a, d.drawn0 x k, k⟩
theorem pickS {b : Nat} {zs : List ByteArray} (d : Hs base W h0 h D (rArg base hX :: rCur base cb hX :: R)) (m : (b, 9, zs.map .string) ∈ D) (l0 : 0 < zs.length) (l1 : zs.length ≤ 256) : ∃ z h', run (Et base) 190 [.pointer (at0 cb), .slice (at0 b) zs.length zs.length] h = some (.string z, h') ∧ z ∈ zs ∧ Hs base W h0 h' D (rArg base hX :: rCur base cb hX :: R) ∧ KB (· = cb) h h' := by
 obtain ⟨z, h', e, a, x, k, _⟩ := l1Str_run d.cur0 (d.ol m).sl (fun c hc => by rw [blk_at0] at hc; subst hc; exact d.neC m) l0 l1
 exact ⟨z, h', e, a, d.drawn0 x k, k⟩
end Hs
def DrawQ (base cb n : Nat) : Prop := ∀ h, CurR base cb h → ∃ t cs h', run (Et base) 211 [.pointer (at0 cb), .int .i64 (n : Int)] h = some (.agg cs.toArray, h') ∧ TmG base (n + 1) (iS h.length h'.length) h' t cs ∧ Gt n t ∧ CurR base cb h' ∧ KB (· = cb) h h'
theorem Hs.draw {base cb n : Nat} {W : Fp} {hX h0 h : AH} {D : Ds} {R : List Rs} (q : DrawQ base cb n) (d : Hs base W h0 h D (rArg base hX :: rCur base cb hX :: R)) : ∃ t cs h' S, run (Et base) 211 [.pointer (at0 cb), .int .i64 (n : Int)] h = some (.agg cs.toArray, h') ∧ Gt n t ∧ Hs base W h0 h' D (rArg base hX :: rCur base cb hX :: R ++ [⟨S, true, fun y => TmG base (n + 1) S y t cs⟩]) ∧ KB (· = cb) h h' := by
 obtain ⟨t, cs, h', e, g, gt, x, k⟩ := q h d.cur0
 exact ⟨t, cs, h', _, e, gt, d.drawC (j := 0) (i := 1) rfl rfl x k _ (fun y => TmG base (n + 1) (iS h.length h'.length) y t cs) g (fun U y y' ky hs z => TmG.kp _ _ _ U y y' _ _ ky hs z) (fun b hb => hb), k⟩
theorem drawQ_loop {base cb zb tb m : Nat} {kk : Int} {hX h0 : AH} {V : Fp} (hm : m ≤ 100) (ih : ∀ n, m = n + 1 → DrawQ base cb n) : ∀ (k : Nat) (h : AH) (l : List Tm) (ao : Option Addr) (S2 : Fp), l.length + k ≤ 3 → (∀ n, m = n + 1 → ∀ t ∈ l, Gt n t) → (m = 0 → l = []) → Hs base V h0 h [(tb, 39, termV kk 0 ⟨#[]⟩ ao l.length), (zb, 39, termV 0 0 ⟨#[]⟩ none 0)] [rArg base hX, rCur base cb hX, ⟨S2, true, fun y => RowO base 39 4 (TmG base m) S2 y l ao⟩] →
  Wp (loopL (B211_0 base) [some (.pointer (at0 cb)), some (.int .i64 (m : Int)), some (.pointer (at0 zb)), some (.pointer (at0 tb)), some (.int .i64 (k : Int))] h) fun o => ∃ l' a' S', o.1 = 3 ∧ o.2.1 = [some (.pointer (at0 zb)), some (.pointer (at0 tb))] ∧ l'.length ≤ 3 ∧ (∀ n, m = n + 1 → ∀ t ∈ l', Gt n t) ∧ (m = 0 → l' = []) ∧ Hs base V h0 o.2.2 [(tb, 39, termV kk 0 ⟨#[]⟩ a' l'.length), (zb, 39, termV 0 0 ⟨#[]⟩ none 0)] [rArg base hX, rCur base cb hX, ⟨S', true, fun y => RowO base 39 4 (TmG base m) S' y l' a'⟩] := by
 intro k
 induction k with
 | zero =>
  intro h l ao S2 hl hg h0l d
  suffices w : Wp (B211_0 base [some (.pointer (at0 cb)), some (.int .i64 (m : Int)), some (.pointer (at0 zb)), some (.pointer (at0 tb)), some (.int .i64 ((0 : Nat) : Int))] h) fun o => o = (3, [some (.pointer (at0 zb)), some (.pointer (at0 tb))], h) by
   obtain ⟨o, e, rfl⟩ := w
   exact ⟨_, loop_off (by decide) e, l, ao, S2, rfl, rfl, by omega, hg, h0l, d⟩
  rw [B211_0_eq]
  refine W.join (W.ifF (by decide) (W.il ?_))
  ((try simp only [n1, n2, n3, n4, n5, n6] at d); (with_reducible repeat first | refine W.a1 d ?_ | refine W.a2 ?_ | refine W.a3 ?_ | refine W.bo ?_ | refine W.a5 d fun hw d lw kw => ?_ | refine W.a6 d ?_ | refine W.a7 ?_ | refine W.a8 ?_))
  exact W.ifF (by decide) (W.ret rfl)
 | succ k ihk =>
  intro h l ao S2 hl hg h0l d
  cases m with
  | zero =>
   suffices w : Wp (B211_0 base [some (.pointer (at0 cb)), some (.int .i64 ((0 : Nat) : Int)), some (.pointer (at0 zb)), some (.pointer (at0 tb)), some (.int .i64 ((k + 1 : Nat) : Int))] h) fun o => o = (3, [some (.pointer (at0 zb)), some (.pointer (at0 tb))], h) by
    obtain ⟨o, e, rfl⟩ := w
    exact ⟨_, loop_off (by decide) e, l, ao, S2, rfl, rfl, by omega, hg, h0l, d⟩
   rw [B211_0_eq]
   refine W.join (W.ifT (decide_eq_true (by omega)) (W.il ?_))
   ((try simp only [n1, n2, n3, n4, n5, n6] at d); (with_reducible repeat first | refine W.a1 d ?_ | refine W.a2 ?_ | refine W.a3 ?_ | refine W.bo ?_ | refine W.a5 d fun hw d lw kw => ?_ | refine W.a6 d ?_ | refine W.a7 ?_ | refine W.a8 ?_))
   exact W.ifF (by decide) (W.ret rfl)
  | succ n =>
   suffices w : Wp (B211_0 base [some (.pointer (at0 cb)), some (.int .i64 ((n + 1 : Nat) : Int)), some (.pointer (at0 zb)), some (.pointer (at0 tb)), some (.int .i64 ((k + 1 : Nat) : Int))] h) fun o => ∃ t a' S', o.1 = 0 ∧ o.2.1 = [some (.pointer (at0 cb)), some (.int .i64 ((n + 1 : Nat) : Int)), some (.pointer (at0 zb)), some (.pointer (at0 tb)), some (.int .i64 (k : Int))] ∧ Gt n t ∧ Hs base V h0 o.2.2 [(tb, 39, termV kk 0 ⟨#[]⟩ a' (l.length + 1)), (zb, 39, termV 0 0 ⟨#[]⟩ none 0)] [rArg base hX, rCur base cb hX, ⟨S', true, fun y => RowO base 39 4 (TmG base (n + 1)) S' y (l ++ [t]) a'⟩] by
    obtain ⟨⟨o1, o2, h'⟩, e, t, a', S', y1, y2, gt, d'⟩ := w
    simp only at y1 y2 d'
    subst y1; subst y2
    have el : (l ++ [t]).length = l.length + 1 := by simp
    obtain ⟨o, eo, q⟩ := ihk h' (l ++ [t]) a' S' (by omega) (fun n' e' u hu => by
     have : n = n' := by omega
     subst this
     rcases List.mem_append.1 hu with hu | hu
     ·exact hg n rfl u hu
     ·rw [List.mem_singleton] at hu; subst hu; exact gt) (fun e' => by omega) (by rw [el]; exact d')
    exact ⟨o, loop_on e eo, q⟩
   rw [B211_0_eq]
   refine W.join (W.ifT (decide_eq_true (by omega)) (W.il ?_))
   ((try simp only [n1, n2, n3, n4, n5, n6] at d); (with_reducible repeat first | refine W.a1 d ?_ | refine W.a2 ?_ | refine W.a3 ?_ | refine W.bo ?_ | refine W.a5 d fun hw d lw kw => ?_ | refine W.a6 d ?_ | refine W.a7 ?_ | refine W.a8 ?_))
   refine W.ifT (decide_eq_true (by omega)) ?_
   ((try simp only [n1, n2, n3, n4, n5, n6] at d); (with_reducible repeat first | refine W.a1 d ?_ | refine W.a2 ?_ | refine W.a3 ?_ | refine W.bo ?_ | refine W.a5 d fun hw d lw kw => ?_ | refine W.a6 d ?_ | refine W.a7 ?_ | refine W.a8 ?_))
   rw [w64i (n := ((n + 1 : Nat) : Int) - 1) (by omega) (by omega), show ((n + 1 : Nat) : Int) - 1 = (n : Int) from by omega]
   obtain ⟨t, cs, h2, S', e2, gt, d, _⟩ := d.draw (ih n rfl)
   refine W.bs e2 ?_
   obtain ⟨k1, k2, k3, k4, k5, rfl⟩ := (d.rs (i := 3) rfl : TmG base (n + 1) S' h2 t _).form
   ((try simp only [n1, n2, n3, n4, n5, n6] at d); (with_reducible repeat first | refine W.a1 d ?_ | refine W.a2 ?_ | refine W.a3 ?_ | refine W.bo ?_ | refine W.a5 d fun hw d lw kw => ?_ | refine W.a6 d ?_ | refine W.a7 ?_ | refine W.a8 ?_); (refine W.nD d fun h4 d _ kh4 => ?_); (with_reducible repeat first | refine W.a1 d ?_ | refine W.a2 ?_ | refine W.a3 ?_ | refine W.bo ?_ | refine W.a5 d fun hw d lw kw => ?_ | refine W.a6 d ?_ | refine W.a7 ?_ | refine W.a8 ?_))
   obtain ⟨a5, h5, S5, e5, d, _, _, _⟩ := d.app1 (i := 2) (j := 3) (bytes := 56) (TmG.kp _ _) rfl rfl (by decide) (.head _) rfl (by decide) rfl (by omega) (by omega)
   refine W.bs e5 ?_
   ((try simp only [n1, n2, n3, n4, n5, n6] at d); (with_reducible repeat first | refine W.a1 d ?_ | refine W.a2 ?_ | refine W.a3 ?_ | refine W.bo ?_ | refine W.a5 d fun hw d lw kw => ?_ | refine W.a6 d ?_ | refine W.a7 ?_ | refine W.a8 ?_))
   have d := (d.tl).takeR 3
   rw [w64i (n := ((k + 1 : Nat) : Int) - 1) (by omega) (by omega), show ((k + 1 : Nat) : Int) - 1 = (k : Int) from by omega]
   exact W.ret ⟨t, a5, S5, rfl, rfl, gt, d⟩
theorem drawQ_key {base cb m : Nat} (hm : m ≤ 100) (ih : ∀ n, m = n + 1 → DrawQ base cb n) : DrawQ base cb m := by
 intro h x
 have hlt := x.lt
 have hb : base ≤ h.length := by omega
 have d := Hs.startC x hb
 suffices w : Wp (run (Et base) 211 [.pointer (at0 cb), .int .i64 (m : Int)] h) fun o => ∃ t cs S, o.1 = .agg cs.toArray ∧ Gt m t ∧ TmG base (m + 1) S o.2 t cs ∧ (∀ b, S b → h.length ≤ b ∧ b < o.2.length) ∧ CurR base cb o.2 ∧ KB (· = cb) h o.2 by
  obtain ⟨⟨o1, o2⟩, e, t, cs, S, y1, y2, y3, y4, y5, y6⟩ := w
  simp only at y1 y3 y4 y5 y6
  subst y1
  exact ⟨t, cs, o2, e, TmG.mo _ _ _ _ _ _ _ (fun b hb => y4 b hb) y3, y2, y5, y6⟩
 have leafE : ∀ {h' : AH} {D : Ds} {k n : Int} {s : ByteArray}, Hs base (· = cb) h h' D [rArg base h, rCur base cb h] → s.size ≤ maxLen → shB k n s 0 = true → ∃ t cs S, Value.agg (termV k n s none 0).toArray = .agg cs.toArray ∧ Gt m t ∧ TmG base (m + 1) S h' t cs ∧ (∀ b, S b → h.length ≤ b ∧ b < h'.length) ∧ CurR base cb h' ∧ KB (· = cb) h h' := fun d hs hsh =>
  ⟨.mk _ _ _ [], _, fun _ => False, rfl, Gt.leaf hsh m, ⟨hs, by decide, none, rfl, RowO.nil⟩, fun _ h => h.elim, d.cur0, d.kb⟩
 refine W.of (fun r hx => Am.r211 hx) ?_
 ((try simp only [n1, n2, n3, n4, n5, n6] at d); (with_reducible repeat first | refine W.a1 d ?_ | refine W.a2 ?_ | refine W.a3 ?_ | refine W.bo ?_ | refine W.a5 d fun hw d lw kw => ?_ | refine W.a6 d ?_ | refine W.a7 ?_ | refine W.a8 ?_); (refine W.nD d fun h1 d _ kh1 => ?_); (with_reducible repeat first | refine W.a1 d ?_ | refine W.a2 ?_ | refine W.a3 ?_ | refine W.bo ?_ | refine W.a5 d fun hw d lw kw => ?_ | refine W.a6 d ?_ | refine W.a7 ?_ | refine W.a8 ?_))
 obtain ⟨n, h2, e2, z0, z1, z2, d, k2⟩ := d.below (n := 9) (by omega)
 have z1 := z1 (by omega)
 refine W.bs e2 ?_
 ((try simp only [n1, n2, n3, n4, n5, n6] at d); (with_reducible repeat first | refine W.a1 d ?_ | refine W.a2 ?_ | refine W.a3 ?_ | refine W.bo ?_ | refine W.a5 d fun hw d lw kw => ?_ | refine W.a6 d ?_ | refine W.a7 ?_ | refine W.a8 ?_))
 apply W.jb (decide (n = 0 ∨ n = 1 ∨ n = 2)) d
 ·refine W.ite (fun c => ?_) (fun c => ?_)
  ·have c : n = 0 := by simpa using c
   exact W.lb rfl (by simp [c]) (KB.refl _ _)
  refine W.ite (fun c1 => ?_) (fun c1 => ?_)
  ·have c1 : n = 1 := by simpa using c1
   exact W.lb rfl (by simp [c1]) (KB.refl _ _)
  ·have c : ¬ n = 0 := by simpa using c
   have c1 : ¬ n = 1 := by simpa using c1
   refine W.lb rfl ?_ (KB.refl _ _)
   by_cases c2 : n = 2
   ·simp [c2]
   ·simp [c, c1, c2]
 intro h3 d n3
 ((try simp only [n1, n2, n3, n4, n5, n6] at d); (with_reducible repeat first | refine W.a1 d ?_ | refine W.a2 ?_ | refine W.a3 ?_ | refine W.bo ?_ | refine W.a5 d fun hw d lw kw => ?_ | refine W.a6 d ?_ | refine W.a7 ?_ | refine W.a8 ?_))
 refine W.ite (fun cB => ?_) (fun cB => ?_)
 ·obtain ⟨v, h4, e4, v0, v1, v2, d, k4⟩ := d.below (n := 100) (by omega)
  have v1 := v1 (by omega)
  refine W.bs e4 ?_
  ((try simp only [n1, n2, n3, n4, n5, n6] at d); (with_reducible repeat first | refine W.a1 d ?_ | refine W.a2 ?_ | refine W.a3 ?_ | refine W.bo ?_ | refine W.a5 d fun hw d lw kw => ?_ | refine W.a6 d ?_ | refine W.a7 ?_ | refine W.a8 ?_); (refine W.nD d fun h5 d _ kh5 => ?_); (with_reducible repeat first | refine W.a1 d ?_ | refine W.a2 ?_ | refine W.a3 ?_ | refine W.bo ?_ | refine W.a5 d fun hw d lw kw => ?_ | refine W.a6 d ?_ | refine W.a7 ?_ | refine W.a8 ?_))
  obtain ⟨u, h6, e6, hu, d, k6⟩ := d.pick (b := h4.length) (zs := [0, 1, -1, 7, 1000000, -1000000, v]) (.head _) (by simp) (by simp)
  refine W.bs e6 ?_
  ((try simp only [n1, n2, n3, n4, n5, n6] at d); (with_reducible repeat first | refine W.a1 d ?_ | refine W.a2 ?_ | refine W.a3 ?_ | refine W.bo ?_ | refine W.a5 d fun hw d lw kw => ?_ | refine W.a6 d ?_ | refine W.a7 ?_ | refine W.a8 ?_))
  refine W.ret (leafE d (by decide) ?_)
  have : -1000000 ≤ u ∧ u ≤ 1000000 := by
   simp only [List.mem_cons, List.not_mem_nil, or_false] at hu
   omega
  unfold shB inB
  simp [this.1, this.2]
 apply W.jb (decide (n = 3 ∨ n = 4)) d
 ·refine W.ite (fun c => ?_) (fun c => ?_)
  ·have c : n = 3 := by simpa using c
   exact W.lb rfl (by simp [c]) (KB.refl _ _)
  ·have c : ¬ n = 3 := by simpa using c
   refine W.lb rfl ?_ (KB.refl _ _)
   by_cases c2 : n = 4
   ·simp [c2]
   ·simp [c, c2]
 intro h4 d n4
 ((try simp only [n1, n2, n3, n4, n5, n6] at d); (with_reducible repeat first | refine W.a1 d ?_ | refine W.a2 ?_ | refine W.a3 ?_ | refine W.bo ?_ | refine W.a5 d fun hw d lw kw => ?_ | refine W.a6 d ?_ | refine W.a7 ?_ | refine W.a8 ?_))
 refine W.ite (fun cC => ?_) (fun cC => ?_)
 ·((try simp only [n1, n2, n3, n4, n5, n6] at d); (with_reducible repeat first | refine W.a1 d ?_ | refine W.a2 ?_ | refine W.a3 ?_ | refine W.bo ?_ | refine W.a5 d fun hw d lw kw => ?_ | refine W.a6 d ?_ | refine W.a7 ?_ | refine W.a8 ?_); (refine W.nD d fun h5 d _ kh5 => ?_); (with_reducible repeat first | refine W.a1 d ?_ | refine W.a2 ?_ | refine W.a3 ?_ | refine W.bo ?_ | refine W.a5 d fun hw d lw kw => ?_ | refine W.a6 d ?_ | refine W.a7 ?_ | refine W.a8 ?_))
  obtain ⟨u, h6, e6, hu, d, k6⟩ := d.pickS (b := h4.length) (zs := [⟨#[111, 107]⟩, ⟨#[97]⟩, ⟨#[115, 116, 111, 112]⟩, ⟨#[104, 105, 50]⟩]) (.head _) (by simp) (by simp)
  refine W.bs e6 ?_
  ((try simp only [n1, n2, n3, n4, n5, n6] at d); (with_reducible repeat first | refine W.a1 d ?_ | refine W.a2 ?_ | refine W.a3 ?_ | refine W.bo ?_ | refine W.a5 d fun hw d lw kw => ?_ | refine W.a6 d ?_ | refine W.a7 ?_ | refine W.a8 ?_))
  have hq : ∀ s ∈ ([⟨#[111, 107]⟩, ⟨#[97]⟩, ⟨#[115, 116, 111, 112]⟩, ⟨#[104, 105, 50]⟩] : List ByteArray), s.size ≤ maxLen ∧ shB 2 0 s 0 = true := by
   simp only [List.forall_mem_cons]
   exact ⟨⟨by decide, by decide⟩, ⟨by decide, by decide⟩, ⟨by decide, by decide⟩, ⟨by decide, by decide⟩, fun _ h => nomatch h⟩
  exact W.ret (leafE d (hq u hu).1 (hq u hu).2)
 refine W.ite (fun c5 => ?_) (fun c5 => ?_)
 ·obtain ⟨v, h5, e5, v0, v1, v2, d, k5⟩ := d.below (n := 4) (by omega)
  have v1 := v1 (by omega)
  refine W.bs e5 ?_
  ((try simp only [n1, n2, n3, n4, n5, n6] at d); (with_reducible repeat first | refine W.a1 d ?_ | refine W.a2 ?_ | refine W.a3 ?_ | refine W.bo ?_ | refine W.a5 d fun hw d lw kw => ?_ | refine W.a6 d ?_ | refine W.a7 ?_ | refine W.a8 ?_))
  refine W.ret (leafE d (by decide) ?_)
  have : 0 ≤ v ∧ v ≤ 99999 := by omega
  unfold shB inB
  simp [this.1, this.2]
 refine W.ite (fun c6 => ?_) (fun c6 => ?_)
 ·((try simp only [n1, n2, n3, n4, n5, n6] at d); (with_reducible repeat first | refine W.a1 d ?_ | refine W.a2 ?_ | refine W.a3 ?_ | refine W.bo ?_ | refine W.a5 d fun hw d lw kw => ?_ | refine W.a6 d ?_ | refine W.a7 ?_ | refine W.a8 ?_); (refine W.nD d fun h5 d _ kh5 => ?_); (with_reducible repeat first | refine W.a1 d ?_ | refine W.a2 ?_ | refine W.a3 ?_ | refine W.bo ?_ | refine W.a5 d fun hw d lw kw => ?_ | refine W.a6 d ?_ | refine W.a7 ?_ | refine W.a8 ?_))
  obtain ⟨u, h6, e6, hu, d, k6⟩ := d.pickS (b := h4.length) (zs := [⟨#[]⟩, ⟨#[120]⟩, ⟨#[0, 255]⟩, ⟨#[104, 101, 108, 108, 111]⟩]) (.head _) (by simp) (by simp)
  refine W.bs e6 ?_
  ((try simp only [n1, n2, n3, n4, n5, n6] at d); (with_reducible repeat first | refine W.a1 d ?_ | refine W.a2 ?_ | refine W.a3 ?_ | refine W.bo ?_ | refine W.a5 d fun hw d lw kw => ?_ | refine W.a6 d ?_ | refine W.a7 ?_ | refine W.a8 ?_))
  have hq : ∀ s ∈ ([⟨#[]⟩, ⟨#[120]⟩, ⟨#[0, 255]⟩, ⟨#[104, 101, 108, 108, 111]⟩] : List ByteArray), s.size ≤ maxLen ∧ shB 6 0 s 0 = true := by
   simp only [List.forall_mem_cons]
   exact ⟨⟨by decide, by decide⟩, ⟨by decide, by decide⟩, ⟨by decide, by decide⟩, ⟨by decide, by decide⟩, fun _ h => nomatch h⟩
  exact W.ret (leafE d (hq u hu).1 (hq u hu).2)
 ((try simp only [n1, n2, n3, n4, n5, n6] at d); (with_reducible repeat first | refine W.a1 d ?_ | refine W.a2 ?_ | refine W.a3 ?_ | refine W.bo ?_ | refine W.a5 d fun hw d lw kw => ?_ | refine W.a6 d ?_ | refine W.a7 ?_ | refine W.a8 ?_); (refine W.nD d fun h5 d _ kh5 => ?_); (with_reducible repeat first | refine W.a1 d ?_ | refine W.a2 ?_ | refine W.a3 ?_ | refine W.bo ?_ | refine W.a5 d fun hw d lw kw => ?_ | refine W.a6 d ?_ | refine W.a7 ?_ | refine W.a8 ?_))
 obtain ⟨u, h6, e6, hu, d, k6⟩ := d.pick (b := h4.length) (zs := [4, 5]) (.head _) (by simp) (by simp)
 have hu : u = 4 ∨ u = 5 := by simpa using hu
 refine W.bs e6 ?_
 ((try simp only [n1, n2, n3, n4, n5, n6] at d); (with_reducible repeat first | refine W.a1 d ?_ | refine W.a2 ?_ | refine W.a3 ?_ | refine W.bo ?_ | refine W.a5 d fun hw d lw kw => ?_ | refine W.a6 d ?_ | refine W.a7 ?_ | refine W.a8 ?_); (refine W.nD d fun h7 d _ kh7 => ?_); (with_reducible repeat first | refine W.a1 d ?_ | refine W.a2 ?_ | refine W.a3 ?_ | refine W.bo ?_ | refine W.a5 d fun hw d lw kw => ?_ | refine W.a6 d ?_ | refine W.a7 ?_ | refine W.a8 ?_))
 obtain ⟨v, h8, e8, v0, v1, v2, d, k8⟩ := d.below (n := 4) (by omega)
 have v1 := v1 (by omega)
 refine W.bs e8 ?_
 ((try simp only [n1, n2, n3, n4, n5, n6] at d); (with_reducible repeat first | refine W.a1 d ?_ | refine W.a2 ?_ | refine W.a3 ?_ | refine W.bo ?_ | refine W.a5 d fun hw d lw kw => ?_ | refine W.a6 d ?_ | refine W.a7 ?_ | refine W.a8 ?_))
 have d : Hs base (· = cb) h h8 [(h6.length, 39, termV u 0 ⟨#[]⟩ none 0), (h4.length, 3, iv .i64 [4, 5]), (h.length, 39, termV 0 0 ⟨#[]⟩ none 0)] [rArg base h, rCur base cb h] := d
 have d := d.front (Del.at (i := 2) rfl)
 simp only [n5, n6] at d
 have d := d.front (Del.at (i := 1) rfl)
 simp only [n5, n6] at d
 have d := d.takeD 2
 have d := d.call (KB.refl NoB _) (fun _ => False) (fun y => RowO base 39 4 (TmG base m) (fun _ => False) y [] none) RowO.nil (fun U y y' k hs x => x.keep (TmG.kp _ _) k hs) (fun _ h => h.elim)
 have wl := drawQ_loop (base := base) (kk := u) (m := m) hm ih v.toNat h8 [] none (fun _ => False) (by simp; omega) (fun _ _ t ht => nomatch ht) (fun _ => rfl) d
 rw [show ((v.toNat : Nat) : Int) = v from by omega] at wl
 refine W.wb wl ?_
 rintro ⟨o1, o2, h9⟩ ⟨l', a', S', y1, y2, y3, y4, y5, d⟩
 simp only at y1 y2 d
 subst y1; subst y2
 refine W.ifT rfl ?_
 ((try simp only [n1, n2, n3, n4, n5, n6] at d); (with_reducible repeat first | refine W.a1 d ?_ | refine W.a2 ?_ | refine W.a3 ?_ | refine W.bo ?_ | refine W.a5 d fun hw d lw kw => ?_ | refine W.a6 d ?_ | refine W.a7 ?_ | refine W.a8 ?_))
 have row : RowO base 39 4 (TmG base m) S' hw l' a' := d.rs (i := 2) rfl
 have fr := d.rfr (i := 2) rfl rfl
 have lt := d.rlt (i := 2) rfl
 have hdj : ∀ b, S' b → b ≠ cb := fun b hb e => by
  have dj := d.dj
  simp only [List.pairwise_cons] at dj
  exact dj.2.1 _ (.head _) rfl b e hb
 refine W.ret ⟨.mk u 0 ⟨#[]⟩ l', _, S', rfl, ?_, ⟨by decide, Nat.le_trans y3 (by decide), a', rfl, row⟩, fun b hb => ⟨(fr b hb).resolve_left (hdj b hb), lt b hb⟩, d.cur0, d.kb⟩
 cases m with
 | zero =>
  rw [y5 rfl]
  refine Gt.leaf ?_ 0
  rcases hu with rfl | rfl <;> (unfold shB; simp)
 | succ n => exact Gt.node hu y3 (y4 n rfl)
theorem drawQ {base cb : Nat} : ∀ m, m ≤ 100 → DrawQ base cb m
 | 0, _ => drawQ_key (by omega) fun n e => by omega
 | m + 1, h => drawQ_key h fun n e => by
  have : m = n := by omega
  subst this
  exact drawQ m (by omega)
end Go.Proofs.Ytjmkbglnjklbcaa.Am
set_option linter.unusedSimpArgs false
set_option linter.unusedVariables false
namespace Go.Proofs.Ytjmkbglnjklbcaa.Am
open Go Go.RowKit
theorem sb_getD (s : ByteArray) (i : Nat) : (((s.data.toList.getD i 0).toNat : Nat) : Int) = (sb s).getD i 0 := by
 unfold sb
 simp only [List.getD, List.getElem?_map]
 cases s.data.toList[i]? <;> rfl
theorem sb_bytes (s : ByteArray) : ∀ x ∈ sb s, 0 ≤ x ∧ x ≤ 255 := by
 intro x hx
 simp only [sb, List.mem_map] at hx
 obtain ⟨b, _, rfl⟩ := hx
 have := b.toNat_lt
 omega
theorem extract_sb (s : ByteArray) (i j : Nat) : s.extract i j = bstr (((sb s).drop i).take (j - i)) := by
 apply ByteArray.ext
 apply Array.toList_inj.1
 rw [bstr_data, ByteArray.data_extract, Array.toList_extract]
 unfold sb
 rw [← List.map_drop, ← List.map_take, List.map_map]
 conv => lhs; rw [← List.map_id (List.extract _ _ _)]
 simp only [List.extract_eq_take_drop]
 apply List.map_congr_left
 intro x _
 simp
abbrev strsV (ws : List (List Int)) : List Value := ws.map fun w => Value.string (bstr w)
def splitF (zs : List Int) (c : Int) : Nat → Nat → Nat → List (List Int) → List (List Int)
 | 0, _, _, out => out
 | d + 1, i, from_, out => if (i == zs.length || zs.getD i 0 == c) = true then splitF zs c d (i + 1) (i + 1) (out ++ [(zs.drop from_).take (i - from_)]) else splitF zs c d (i + 1) from_ out
def splitL (zs : List Int) (c : Int) : List (List Int) := splitF zs c (zs.length + 1) 0 0 []
theorem splitF_len (zs : List Int) (c : Int) : ∀ (d i f : Nat) (out : List (List Int)), (splitF zs c d i f out).length ≤ out.length + d
 | 0, _, _, out => Nat.le_refl _
 | d + 1, i, f, out => by
  rw [splitF]
  split
  ·have := splitF_len zs c d (i + 1) (i + 1) (out ++ [(zs.drop f).take (i - f)])
   simp at this
   omega
  ·have := splitF_len zs c d (i + 1) f out
   omega
theorem splitF_pos (zs : List Int) (c : Int) : ∀ (d i f : Nat) (out : List (List Int)), i + d = zs.length + 1 → 0 < d ∨ 0 < out.length → 0 < (splitF zs c d i f out).length
 | 0, _, _, out, hi, h => by rcases h with h | h; exact absurd h (Nat.lt_irrefl 0); exact h
 | d + 1, i, f, out, hi, h => by
  rw [splitF]
  split
  ·exact splitF_pos zs c d (i + 1) _ _ (by omega) (.inr (by simp))
  ·rename_i hc
   refine splitF_pos zs c d (i + 1) _ _ (by omega) (.inl ?_)
   rcases Nat.eq_zero_or_pos d with h0 | h0
   ·exfalso
    apply hc
    have : i = zs.length := by omega
    subst this
    simp
   ·exact h0
theorem splitF_bytes {zs : List Int} (hz : ∀ x ∈ zs, 0 ≤ x ∧ x ≤ 255) (c : Int) : ∀ (d i f : Nat) (out : List (List Int)), (∀ w ∈ out, ∀ x ∈ w, 0 ≤ x ∧ x ≤ 255) → ∀ w ∈ splitF zs c d i f out, ∀ x ∈ w, 0 ≤ x ∧ x ≤ 255
 | 0, _, _, out, h => h
 | d + 1, i, f, out, h => by
  rw [splitF]
  split
  ·refine splitF_bytes hz c d _ _ _ fun w hw => ?_
   rcases List.mem_append.1 hw with hw | hw
   ·exact h w hw
   ·rw [List.mem_singleton] at hw
    subst hw
    exact fun x hx => hz x (List.mem_of_mem_drop (List.mem_of_mem_take hx))
  ·exact splitF_bytes hz c d _ _ _ h
theorem splitF_short {zs : List Int} (c : Int) : ∀ (d i f : Nat) (out : List (List Int)), (∀ w ∈ out, w.length ≤ zs.length) → ∀ w ∈ splitF zs c d i f out, w.length ≤ zs.length
 | 0, _, _, out, h => h
 | d + 1, i, f, out, h => by
  rw [splitF]
  split
  ·refine splitF_short c d _ _ _ fun w hw => ?_
   rcases List.mem_append.1 hw with hw | hw
   ·exact h w hw
   ·rw [List.mem_singleton] at hw
    subst hw
    simp
    omega
  ·exact splitF_short c d _ _ _ h
theorem split_loop {base lo : Nat} {s : ByteArray} {c : Int} (hs : s.size ≤ 1048576) (hlo : base ≤ lo) : ∀ (d i f : Nat) (h : AH) (ao : Option Addr) (out : List (List Int)), i + d = (sb s).length + 1 → f ≤ i → out.length ≤ i → Own base 9 h ao (strsV out) → (∀ b, blk ao b → lo ≤ b) → lo ≤ h.length →
  ∃ h' ao', loopL (B207_0 base) [some (.string s), some (.int .u8 c), some (.slice ao out.length out.length), some (.int .i64 (f : Int)), some (.int .i64 (i : Int))] h = some (2, [some (.slice ao' (splitF (sb s) c d i f out).length (splitF (sb s) c d i f out).length)], h') ∧ Own base 9 h' ao' (strsV (splitF (sb s) c d i f out)) ∧ (∀ b, blk ao' b → lo ≤ b) ∧ KB (fun b => lo ≤ b) h h' := by
 have hl := sb_len s
 intro d
 induction d with
 | zero =>
  intro i f h ao out hi hf ho ow hao hlh
  refine ⟨h, ao, loop_off (by decide) ?_, ow, hao, KB.refl _ _⟩
  rw [B207_0_eq]
  exact ifF (by simp; omega) rfl
 | succ d ih =>
  intro i f h ao out hi hf ho ow hao hlh
  have hle : (i : Int) ≤ (s.size : Int) := by omega
  have hj : ((if ((i : Int) == (s.size : Int)) = true then
    some (Sum.inl ([some (.string s), some (.int .u8 c), some (.slice ao out.length out.length), some (.int .i64 (f : Int)), some (.int .i64 (i : Int)), some (.bool true)], h))
    else
    (if 0 ≤ (i : Int) ∧ (i : Int) < (s.size : Int) then
    some (.inl ([some (.string s), some (.int .u8 c), some (.slice ao out.length out.length), some (.int .i64 (f : Int)), some (.int .i64 (i : Int)), some (.bool (((s.data.toList.getD (Int.toNat (i : Int)) 0).toNat : Int) == c))], h))
    else none)) : Option (Sum (Slots × AH) (Sum (Slots × AH) (Nat × Slots × AH)))) = some (.inl ([some (.string s), some (.int .u8 c), some (.slice ao out.length out.length), some (.int .i64 (f : Int)), some (.int .i64 (i : Int)), some (.bool (i == (sb s).length || (sb s).getD i 0 == c))], h)) := by
   by_cases e : i = (sb s).length
   ·refine ifT (by simp; omega) ?_
    have : (i == (sb s).length) = true := by simpa using e
    rw [this]
    rfl
   ·refine ifF (by simp; omega) (ifT ⟨by omega, by omega⟩ ?_)
    have : (i == (sb s).length) = false := by simpa using e
    rw [this, Int.toNat_natCast, sb_getD]
    rfl
  rw [splitF]
  by_cases e : (i == (sb s).length || (sb s).getD i 0 == c) = true
  ·rw [if_pos e]
   rw [e] at hj
   obtain ⟨a6, h6, e6, o6, k6, b6, n6⟩ := Am.app1 (bytes := 16) ow (n := out.length) (sz := 1) (cs := [.string (bstr (((sb s).drop f).take (i - f)))]) (by simp) rfl (by decide) rfl (by omega) (by omega) (by omega)
   have eV : strsV out ++ [Value.string (bstr (((sb s).drop f).take (i - f)))] = strsV (out ++ [((sb s).drop f).take (i - f)]) := by simp [strsV]
   rw [eV] at o6
   obtain ⟨h7, a7, e7, o7, f7, k7⟩ := ih (i + 1) (i + 1) h6 a6 (out ++ [((sb s).drop f).take (i - f)]) (by omega) (Nat.le_refl _) (by simp; omega) o6 (fun b hb => by have := b6 b hb; omega) (by omega)
   refine ⟨h7, a7, loop_on ?_ e7, o7, f7, KB.trans k6 k7 (fun b _ hb => hao b hb) (fun _ _ h => h)⟩
   rw [B207_0_eq]
   refine ifT (decide_eq_true hle) ?_
   refine bj (q := ([some (.string s), some (.int .u8 c), some (.slice a6 (out ++ [((sb s).drop f).take (i - f)]).length (out ++ [((sb s).drop f).take (i - f)]).length), some (.int .i64 ((i + 1 : Nat) : Int)), some (.int .i64 (i : Int))], h6)) ?_ ?_
   ·refine bj _ hj (bT rfl (bI rfl (bS rfl (bI rfl (bI rfl (bB rfl (ifT rfl (ifT ⟨by omega, by omega, hle⟩ ?_))))))))
    rw [Int.toNat_natCast, Int.toNat_natCast, extract_sb]
    refine lets fun y ey => ?_
    subst ey
    refine bs e6 (bS rfl ?_)
    rw [w64i (n := (i : Int) + 1) (by omega) (by omega)]
    simp
   ·refine bT rfl (bI rfl (bS rfl (bI rfl (bI rfl ?_))))
    dsimp only
    rw [w64i (n := (i : Int) + 1) (by omega) (by omega)]
    rfl
  ·rw [if_neg e]
   have e' : (i == (sb s).length || (sb s).getD i 0 == c) = false := by simpa using e
   rw [e'] at hj
   obtain ⟨h7, a7, e7, o7, f7, k7⟩ := ih (i + 1) f h ao out (by omega) (by omega) (by omega) ow hao hlh
   refine ⟨h7, a7, loop_on ?_ e7, o7, f7, k7⟩
   rw [B207_0_eq]
   refine ifT (decide_eq_true hle) ?_
   refine bj (q := ([some (.string s), some (.int .u8 c), some (.slice ao out.length out.length), some (.int .i64 (f : Int)), some (.int .i64 (i : Int))], h)) ?_ ?_
   ·exact bj _ hj (bT rfl (bI rfl (bS rfl (bI rfl (bI rfl (bB rfl (ifF (by decide) rfl)))))))
   ·refine bT rfl (bI rfl (bS rfl (bI rfl (bI rfl ?_))))
    dsimp only
    rw [w64i (n := (i : Int) + 1) (by omega) (by omega)]
    rfl
theorem l8Split_run {base : Nat} {h : AH} {s : ByteArray} {c : Int} (hs : s.size ≤ 1048576) (hb : base ≤ h.length) :
  ∃ ao h', run (Et base) 207 [.string s, .int .u8 c] h = some (.slice ao (splitL (sb s) c).length (splitL (sb s) c).length, h') ∧ Own base 9 h' ao (strsV (splitL (sb s) c)) ∧ (∀ b, blk ao b → h.length ≤ b) ∧ KB NoB h h' := by
 obtain ⟨o1, k1, q1⟩ := box_own (base := base) (t := 9) (h := h) (cs := []) hb rfl
 generalize hh1 : h ++ [some (⟨[], 9⟩ : Blk)] = h1 at o1 k1 q1
 obtain ⟨h2, a2, e2, o2, f2, k2⟩ := split_loop (base := base) (lo := h.length) (c := c) hs hb ((sb s).length + 1) 0 0 h1 (at0 h.length) [] (by omega) (Nat.le_refl _) (Nat.zero_le _) o1 (fun b hb' => by rw [blk_at0] at hb'; omega) (by omega)
 rw [show ((0 : Nat) : Int) = 0 from rfl] at e2
 refine ⟨a2, h2, Am.r207 (lets fun y ey => ?_), o2, f2, kFresh k1 k2 fun i hi => hi⟩
 rw [hh1] at ey
 subst ey
 exact bs e2 (ifT rfl (bS rfl rfl))
def numF (zs : List Int) : Nat → Nat → Int → Int
 | 0, _, n => n
 | d + 1, i, n => if inB (zs.getD i 0) 48 57 = true then numF zs d (i + 1) (n * 10 + (zs.getD i 0 - 48)) else -1
def numL (zs : List Int) : Int := if (!inB (zs.length : Int) 1 7 || (decide ((zs.length : Int) > 1) && zs.getD 0 0 == 48)) = true then -1 else numF zs zs.length 0 0
theorem num_loop {base : Nat} {h : AH} {s : ByteArray} (hs : s.size ≤ 7) : ∀ (d i : Nat) (n : Int), i + d = s.size → 0 ≤ n → n < 10 ^ i →
  ∃ e, loopL (B226_0 base) [some (.string s), some (.int .i64 n), some (.int .i64 (i : Int))] h = some (e, [some (.int .i64 (numF (sb s) d i n))], h) ∧ (e = 1 ∨ e = 2) ∧ -1 ≤ numF (sb s) d i n ∧ numF (sb s) d i n ≤ 10000000 := by
 intro d
 induction d with
 | zero =>
  intro i n hi h0 h1
  refine ⟨2, loop_off (by decide) ?_, .inr rfl, by simp only [numF]; omega, ?_⟩
  ·rw [B226_0_eq]
   exact ifF (by simp; omega) rfl
  ·simp only [numF]
   have : (10 : Int) ^ i ≤ 10 ^ 7 := by
    have h7 : i ≤ 7 := by omega
    match i, h7 with
    | 0, _ => decide
    | 1, _ => decide
    | 2, _ => decide
    | 3, _ => decide
    | 4, _ => decide
    | 5, _ => decide
    | 6, _ => decide
    | 7, _ => decide
    | n + 8, h => omega
   have e : (10 : Int) ^ 7 = 10000000 := by decide
   omega
 | succ d ih =>
  intro i n hi h0 h1
  have hlt : (0 : Int) ≤ (i : Int) ∧ (i : Int) < (s.size : Int) := ⟨by omega, by omega⟩
  have hb : 0 ≤ (sb s).getD i 0 ∧ (sb s).getD i 0 ≤ 255 := by
   have hl : i < (sb s).length := by rw [sb_len]; omega
   have : (sb s).getD i 0 = (sb s)[i] := by simp [List.getD, hl]
   rw [this]
   exact sb_bytes s _ (List.getElem_mem hl)
  have hn7 : n < 10000000 := by
   have h7 : i ≤ 6 := by omega
   have : (10 : Int) ^ i ≤ 1000000 := by
    match i, h7 with
    | 0, _ => decide
    | 1, _ => decide
    | 2, _ => decide
    | 3, _ => decide
    | 4, _ => decide
    | 5, _ => decide
    | 6, _ => decide
    | n + 7, h => omega
   omega
  have hin := l1In_run (base := base) (h := h) (x := (sb s).getD i 0) (a := 48) (b := 57)
  have hw : IntKind.wrap .i64 ((s.data.toList.getD (Int.toNat (i : Int)) 0).toNat : Int) = (sb s).getD i 0 := by
   rw [Int.toNat_natCast, sb_getD]
   exact w64i (by omega) (by omega)
  rw [numF]
  cases c : inB ((sb s).getD i 0) 48 57 with
  | false =>
   rw [c] at hin
   rw [if_neg (by decide)]
   refine ⟨1, loop_off (by decide) ?_, .inl rfl, by decide, by decide⟩
   rw [B226_0_eq]
   refine ifT (decide_eq_true hlt.2) (ifT hlt ?_)
   rw [hw]
   exact bs hin (bB rfl (ifT rfl rfl))
  | true =>
   rw [c] at hin
   rw [if_pos rfl]
   simp only [inB, Bool.and_eq_true, decide_eq_true_eq] at c
   have hp : (10 : Int) ^ (i + 1) = 10 * 10 ^ i := by rw [Int.pow_succ]; omega
   obtain ⟨e, y1, y2, y3, y4⟩ := ih (i + 1) (n * 10 + ((sb s).getD i 0 - 48)) (by omega) (by omega) (by omega)
   refine ⟨e, loop_on ?_ y1, y2, y3, y4⟩
   rw [B226_0_eq]
   refine ifT (decide_eq_true hlt.2) (ifT hlt ?_)
   rw [hw]
   refine bs hin (bB rfl (ifF (by decide) (ifT hlt ?_)))
   have w1 : IntKind.wrap .u8 (((s.data.toList.getD (Int.toNat (i : Int)) 0).toNat : Int) - (48 : Int)) = (sb s).getD i 0 - 48 := by
    rw [Int.toNat_natCast, sb_getD]
    exact wu8 (by omega) (by omega)
   rw [w1, w64i (n := (sb s).getD i 0 - 48) (by omega) (by omega), w64i (n := n * 10) (by omega) (by omega), w64i (n := n * 10 + ((sb s).getD i 0 - 48)) (by omega) (by omega), w64i (n := (i : Int) + 1) (by omega) (by omega)]
   rfl
theorem l1Number_run {base : Nat} {h : AH} {s : ByteArray} (hs : s.size ≤ 1048576) : run (Et base) 226 [.string s] h = some (.int .i64 (numL (sb s)), h) ∧ -1 ≤ numL (sb s) ∧ numL (sb s) ≤ 10000000 := by
 have hl := sb_len s
 have hin := l1In_run (base := base) (h := h) (x := (s.size : Int)) (a := 1) (b := 7)
 have hj : ((run (Et base) 83 [(.int .i64 (s.size : Int)), (.int .i64 (1 : Int)), (.int .i64 (7 : Int))] h).bind fun r2 =>
   ((some r2.1).bind getB).bind fun b3 =>
   (if (!b3) = true then
   some (Sum.inl ([some (.string s), some (.bool true)], r2.2))
   else
   (if (decide ((s.size : Int) > (1 : Int))) = true then
   (if 0 ≤ (0 : Int) ∧ (0 : Int) < (s.size : Int) then
   some (.inl ([some (.string s), some (.bool (((s.data.toList.getD (Int.toNat (0 : Int)) 0).toNat : Int) == (48 : Int)))], r2.2))
   else none)
   else
   some (.inl ([some (.string s), some (.bool false)], r2.2)))) : Option (Sum (Slots × AH) (Value × AH))) = some (.inl ([some (.string s), some (.bool (!inB ((sb s).length : Int) 1 7 || (decide (((sb s).length : Int) > 1) && (sb s).getD 0 0 == 48)))], h)) := by
  rw [hl]
  refine bs hin (bB rfl ?_)
  cases c : inB (s.size : Int) 1 7 with
  | false => exact ifT rfl rfl
  | true =>
   refine ifF (by decide) ?_
   by_cases c2 : (s.size : Int) > 1
   ·refine ifT (decide_eq_true c2) (ifT ⟨by decide, by omega⟩ ?_)
    rw [decide_eq_true c2, Int.toNat_zero, sb_getD]
    rfl
   ·refine ifF (by simpa using c2) ?_
    rw [decide_eq_false c2]
    rfl
 unfold numL
 cases c : (!inB ((sb s).length : Int) 1 7 || (decide (((sb s).length : Int) > 1) && (sb s).getD 0 0 == 48)) with
 | true =>
  rw [c] at hj
  rw [if_pos rfl]
  exact ⟨Am.r226 (bj _ hj (bT rfl (bB rfl (ifT rfl rfl)))), by decide, by decide⟩
 | false =>
  rw [c] at hj
  rw [if_neg (by decide)]
  have h7 : s.size ≤ 7 := by
   rw [hl] at c
   simp only [Bool.or_eq_false_iff, Bool.not_eq_false', inB, Bool.and_eq_true, decide_eq_true_eq] at c
   omega
  obtain ⟨e, y1, y2, y3, y4⟩ := num_loop (base := base) (h := h) h7 s.size 0 0 (by omega) (by omega) (by decide)
  rw [show ((0 : Nat) : Int) = 0 from rfl] at y1
  rw [hl]
  refine ⟨Am.r226 (bj _ hj (bT rfl (bB rfl (ifF (by decide) (bs y1 ?_))))), y3, y4⟩
  rcases y2 with rfl | rfl
  ·exact ifT rfl (bI rfl rfl)
  ·exact ifF (show ¬ (2 : Nat) = 1 by decide) (ifT rfl (bI rfl rfl))
def wholeL (zs : List Int) : Int × Bool := if (decide ((zs.length : Int) > 1) && zs.getD 0 0 == 45) = true then (-(numL (zs.drop 1)), decide (numL (zs.drop 1) > 0)) else (numL zs, decide (numL zs ≥ 0))
theorem l8Whole_run {base : Nat} {h : AH} {s : ByteArray} (hs : s.size ≤ 1048576) : run (Et base) 224 [.string s] h = some (.tuple #[.int .i64 (wholeL (sb s)).1, .bool (wholeL (sb s)).2], h) := by
 have hl := sb_len s
 have hj : ((if (decide ((s.size : Int) > (1 : Int))) = true then
   (if 0 ≤ (0 : Int) ∧ (0 : Int) < (s.size : Int) then
   some (Sum.inl ([some (.string s), some (.bool (((s.data.toList.getD (Int.toNat (0 : Int)) 0).toNat : Int) == (45 : Int)))], h))
   else none)
   else
   some (.inl ([some (.string s), some (.bool false)], h)) : Option (Sum (Slots × AH) (Value × AH)))) = some (.inl ([some (.string s), some (.bool (decide (((sb s).length : Int) > 1) && (sb s).getD 0 0 == 45))], h)) := by
  rw [hl]
  by_cases c2 : (s.size : Int) > 1
  ·refine ifT (decide_eq_true c2) (ifT ⟨by decide, by omega⟩ ?_)
   rw [decide_eq_true c2, Int.toNat_zero, sb_getD]
   rfl
  ·refine ifF (by simpa using c2) ?_
   rw [decide_eq_false c2]
   rfl
 unfold wholeL
 cases c : (decide (((sb s).length : Int) > 1) && (sb s).getD 0 0 == 45) with
 | true =>
  rw [c] at hj
  rw [if_pos rfl]
  have c1 : (s.size : Int) > 1 := by
   rw [hl] at c
   simp only [Bool.and_eq_true, decide_eq_true_eq] at c
   exact c.1
  have ed : sb (bstr ((sb s).drop 1)) = (sb s).drop 1 := sb_bstr fun x hx => sb_bytes s x (List.mem_of_mem_drop hx)
  have hx : s.extract (Int.toNat (1 : Int)) (Int.toNat (s.size : Int)) = bstr ((sb s).drop 1) := by
   rw [extract_sb, Int.toNat_natCast]
   congr 1
   exact List.take_of_length_le (by simp [sb_len])
  obtain ⟨e, b1, b2⟩ := l1Number_run (base := base) (h := h) (s := bstr ((sb s).drop 1)) (by rw [bstr_size]; simp [sb_len]; omega)
  rw [ed] at e b1 b2
  refine Am.r224 (bj _ hj (bT rfl (bB rfl (ifT rfl (ifT ⟨by decide, by omega, Int.le_refl _⟩ ?_)))))
  rw [hx]
  refine bs e (bI rfl ?_)
  rw [w64i (by omega) (by omega)]
  simp
 | false =>
  rw [c] at hj
  rw [if_neg (by decide)]
  obtain ⟨e, b1, b2⟩ := l1Number_run (base := base) (h := h) hs
  exact Am.r224 (bj _ hj (bT rfl (bB rfl (ifF (by decide) (bs e (bI rfl rfl))))))
end Go.Proofs.Ytjmkbglnjklbcaa.Am
set_option linter.unusedSimpArgs false
set_option linter.unusedVariables false
namespace Go.Proofs.Ytjmkbglnjklbcaa.Am
open Go Go.RowKit
def setI (x : In) (c : Int) (w : List Int) : In × Bool :=
 if (c == (83 : Int)) = true then ({ x with s := bstr w }, true)
 else if (c == (65 : Int)) = true then ({ x with a := (wholeL w).1 }, (wholeL w).2)
 else if (c == (66 : Int)) = true then ({ x with b := (wholeL w).1 }, (wholeL w).2)
 else if (c == (67 : Int)) = true then ({ x with c := (wholeL w).1 }, (wholeL w).2)
 else ({ x with n := (wholeL w).1 }, (wholeL w).2)
theorem l8Set_run {base xb : Nat} {h : AH} {x : In} {c : Int} {w : List Int} (hw : ∀ z ∈ w, 0 ≤ z ∧ z ≤ 255) (hl : w.length ≤ 1048576) (o : Own base 139 h (at0 xb) (inV x)) :
  ∃ h', run (Et base) 220 [.pointer (at0 xb), .int .u8 c, .string (bstr w)] h = some (.bool (setI x c w).2, h') ∧ Own base 139 h' (at0 xb) (inV (setI x c w).1) ∧ KB (· = xb) h h' ∧ h'.length = h.length := by
 have hwh := l8Whole_run (base := base) (h := h) (s := bstr w) (by rw [bstr_size]; exact hl)
 rw [sb_bstr hw] at hwh
 unfold setI
 by_cases c0 : (c == (83 : Int)) = true
 ·rw [if_pos c0]
  obtain ⟨h', e, o', k, l⟩ := o.wr0 (i := 5) (new := [.string (bstr w)]) (by simp) (by simp)
  exact ⟨h', Am.r220 (ifT c0 (bs rfl (bs e rfl))), o', k.mono fun b _ hb => by omega, l⟩
 ·rw [if_neg c0]
  by_cases c1 : (c == (65 : Int)) = true
  ·rw [if_pos c1]
   obtain ⟨h', e, o', k, l⟩ := o.wr0 (i := 1) (new := [.int .i64 (wholeL w).1]) (by simp) (by simp)
   exact ⟨h', Am.r220 (ifF c0 (bs hwh (bs rfl (bI rfl (bB rfl (bj (q := ([some (.bool (wholeL w).2)], h')) (ifT c1 (bs rfl (bs e rfl))) (bB rfl rfl))))))), o', k.mono fun b _ hb => by omega, l⟩
  ·rw [if_neg c1]
   by_cases c2 : (c == (66 : Int)) = true
   ·rw [if_pos c2]
    obtain ⟨h', e, o', k, l⟩ := o.wr0 (i := 2) (new := [.int .i64 (wholeL w).1]) (by simp) (by simp)
    exact ⟨h', Am.r220 (ifF c0 (bs hwh (bs rfl (bI rfl (bB rfl (bj (q := ([some (.bool (wholeL w).2)], h')) (ifF c1 (ifT c2 (bs rfl (bs e rfl)))) (bB rfl rfl))))))), o', k.mono fun b _ hb => by omega, l⟩
   ·rw [if_neg c2]
    by_cases c3 : (c == (67 : Int)) = true
    ·rw [if_pos c3]
     obtain ⟨h', e, o', k, l⟩ := o.wr0 (i := 3) (new := [.int .i64 (wholeL w).1]) (by simp) (by simp)
     exact ⟨h', Am.r220 (ifF c0 (bs hwh (bs rfl (bI rfl (bB rfl (bj (q := ([some (.bool (wholeL w).2)], h')) (ifF c1 (ifF c2 (ifT c3 (bs rfl (bs e rfl))))) (bB rfl rfl))))))), o', k.mono fun b _ hb => by omega, l⟩
    ·rw [if_neg c3]
     obtain ⟨h', e, o', k, l⟩ := o.wr0 (i := 4) (new := [.int .i64 (wholeL w).1]) (by simp) (by simp)
     exact ⟨h', Am.r220 (ifF c0 (bs hwh (bs rfl (bI rfl (bB rfl (bj (q := ([some (.bool (wholeL w).2)], h')) (ifF c1 (ifF c2 (ifF c3 (bs rfl (bs e rfl))))) (bB rfl rfl))))))), o', k.mono fun b _ hb => by omega, l⟩
def setsF (us : List Int) (ws : List (List Int)) : Nat → Nat → In → Bool → In × Bool
 | 0, _, x, ok => (x, ok)
 | d + 1, k, x, ok => if ok = true then setsF us ws d (k + 1) (setI x (us.getD k 0) (ws.getD (k + 1) [])).1 (setI x (us.getD k 0) (ws.getD (k + 1) [])).2 else (x, false)
theorem strs_at {base t : Nat} {h : AH} {a : Option Addr} {ws : List (List Int)} (s : Sl h a (strsV ws)) {i : Nat} (hi : i < ws.length) : ∃ ad, a = some ad ∧ Am.cell h ad.block (ad.off + i) = some (.string (bstr (ws.getD i []))) := by
 have : (strsV ws)[i]? = some (.string (bstr (ws.getD i []))) := by simp [strsV, List.getD, hi]
 exact s.cell this
theorem sets_loop {base b0 xb : Nat} {us : ByteArray} {ws : List (List Int)} {aw : Option Addr} (hus : us.size ≤ 3) (hws : ∀ w ∈ ws, w.length ≤ 1048576 ∧ ∀ z ∈ w, 0 ≤ z ∧ z ≤ 255) (haw : ∀ b, blk aw b → b ≠ xb) : ∀ (d k : Nat) (h : AH) (x : In) (ok : Bool), k + d = us.size → (ok = true → 0 < d → ws.length = us.size + 1) → Sl h aw (strsV ws) → Own base 139 h (at0 xb) (inV x) →
  ∃ h', loopL (B208_1 base) [some (.pointer (at0 b0)), some (.slice aw ws.length ws.length), some (.string us), some (.pointer (at0 xb)), some (.bool ok), some (.int .i64 (k : Int))] h = some (4, [some (.pointer (at0 b0)), some (.pointer (at0 xb)), some (.bool (setsF (sb us) ws d k x ok).2)], h') ∧ Own base 139 h' (at0 xb) (inV (setsF (sb us) ws d k x ok).1) ∧ KB (· = xb) h h' ∧ h'.length = h.length := by
 intro d
 induction d with
 | zero =>
  intro k h x ok hk hlen hs o
  refine ⟨h, loop_off (by decide) ?_, o, KB.refl _ _, rfl⟩
  rw [B208_1_eq]
  refine bj (q := ([some (.pointer (at0 b0)), some (.slice aw ws.length ws.length), some (.string us), some (.pointer (at0 xb)), some (.bool ok), some (.int .i64 (k : Int)), some (.bool false)], h)) (ifF (by simp; omega) rfl) ?_
  exact bs rfl (bS rfl (bT rfl (bs rfl (bB rfl (bI rfl (bB rfl (ifF (by decide) rfl)))))))
 | succ d ih =>
  intro k h x ok hk hlen hs o
  rw [setsF]
  cases ok with
  | false =>
   rw [if_neg (by decide)]
   refine ⟨h, loop_off (by decide) ?_, o, KB.refl _ _, rfl⟩
   rw [B208_1_eq]
   refine bj (q := ([some (.pointer (at0 b0)), some (.slice aw ws.length ws.length), some (.string us), some (.pointer (at0 xb)), some (.bool false), some (.int .i64 (k : Int)), some (.bool false)], h)) (ifT (decide_eq_true (by omega)) rfl) ?_
   exact bs rfl (bS rfl (bT rfl (bs rfl (bB rfl (bI rfl (bB rfl (ifF (by decide) rfl)))))))
  | true =>
   rw [if_pos rfl]
   have hl := hlen rfl (Nat.succ_pos _)
   obtain ⟨ad, rfl, g⟩ := strs_at (base := base) (t := 0) hs (i := k + 1) (by omega)
   have hmem : ws.getD (k + 1) [] ∈ ws := by
    have hk1 : k + 1 < ws.length := by omega
    have : ws.getD (k + 1) [] = ws[k + 1] := by simp [List.getD, hk1]
    rw [this]
    exact List.getElem_mem _
   obtain ⟨w1, w2⟩ := hws _ hmem
   obtain ⟨h1, e1, o1, k1, l1⟩ := l8Set_run (base := base) (c := (sb us).getD k 0) w2 w1 o
   obtain ⟨h2, e2, o2, k2, l2⟩ := ih (k + 1) h1 _ _ (by omega) (fun _ _ => hl) (hs.keep k1 fun b hb hk => haw b hb hk) o1
   refine ⟨h2, loop_on ?_ e2, o2, KB.trans k1 k2 (fun _ _ h => h) (fun _ _ h => h), by omega⟩
   rw [B208_1_eq]
   refine bj (q := ([some (.pointer (at0 b0)), some (.slice (some ad) ws.length ws.length), some (.string us), some (.pointer (at0 xb)), some (.bool true), some (.int .i64 (k : Int)), some (.bool true)], h)) (ifT (decide_eq_true (by omega)) rfl) ?_
   refine bs rfl (bS rfl (bT rfl (bs rfl (bB rfl (bI rfl (bB rfl (ifT rfl (ifT ⟨by omega, by omega⟩ ?_))))))))
   rw [w64i (n := (k : Int) + 1) (by omega) (by omega), show (k : Int) + 1 = ((k + 1 : Nat) : Int) from by omega, Int.toNat_natCast, Int.toNat_natCast, Nat.mul_one, sb_getD]
   exact ifT ⟨by omega, by omega⟩ (bs rfl (bT g (bs e1 (bB rfl rfl))))
def nmL : List (List Int) := [[105, 110, 116], [97, 116, 111, 109], [109, 111, 118, 101], [116, 117, 112, 108, 101], [99, 111, 110, 115], [101, 108, 101, 109], [104, 101, 97, 100], [116, 97, 105, 108], [97, 100, 100], [115, 97, 109, 101], [107, 105, 110, 100], [106, 117, 109, 112], [115, 101, 110, 100], [116, 97, 107, 101], [115, 101, 108, 102], [109, 97, 107, 101], [115, 97, 121], [108, 105, 110, 107], [101, 110, 100], [110, 105, 108]]
theorem nm_bytes : ∀ w ∈ nmL, ∀ z ∈ w, 0 ≤ z ∧ z ≤ 255 := by decide
def insF (ws : List (List Int)) : Nat → Nat → In × Bool
 | 0, _ => (⟨0, 0, 0, 0, 0, ⟨#[]⟩⟩, false)
 | d + 1, i => if nmL.getD i [] = ws.getD 0 [] then setsF (sb (shp ((i : Int) + 1))) ws (shp ((i : Int) + 1)).size 0 ⟨(i : Int) + 1, 0, 0, 0, 0, ⟨#[]⟩⟩ (ws.length == (shp ((i : Int) + 1)).size + 1) else insF ws d (i + 1)
theorem ins_loop {base b0 : Nat} {ws : List (List Int)} {aw an : Option Addr} {lo : Nat} (hws : ∀ w ∈ ws, w.length ≤ 1048576 ∧ ∀ z ∈ w, 0 ≤ z ∧ z ≤ 255) (h0 : 0 < ws.length) (hlen : ws.length ≤ 1048577) (hlo : base ≤ lo) (hb0 : b0 < lo) (haw : ∀ b, blk aw b → b < lo ∧ b ≠ b0) (han : ∀ b, blk an b → b < lo ∧ b ≠ b0) : ∀ (d i : Nat) (h : AH), i + d = 20 → lo ≤ h.length → Sl h aw (strsV ws) → Sl h an (strsV nmL) → Own base 139 h (at0 b0) (inV ⟨0, 0, 0, 0, 0, ⟨#[]⟩⟩) →
  ∃ h', ((loopL (B208_0 base) [some (.pointer (at0 b0)), some (.slice aw ws.length ws.length), some (.slice an 20 20), some (.int .i64 (i : Int))] h = some (1, [some (.pointer (at0 b0)), some (.bool (insF ws d i).2)], h') ∨
    (loopL (B208_0 base) [some (.pointer (at0 b0)), some (.slice aw ws.length ws.length), some (.slice an 20 20), some (.int .i64 (i : Int))] h = some (2, [some (.pointer (at0 b0))], h') ∧ insF ws d i = (⟨0, 0, 0, 0, 0, ⟨#[]⟩⟩, false)))) ∧ Own base 139 h' (at0 b0) (inV (insF ws d i).1) ∧ KB (fun b => b = b0 ∨ lo ≤ b) h h' := by
 intro d
 induction d with
 | zero =>
  intro i h hi hlh hs hn o
  refine ⟨h, .inr ⟨loop_off (by decide) ?_, rfl⟩, o, KB.refl _ _⟩
  rw [B208_0_eq]
  exact ifF (by simp; omega) rfl
 | succ d ih =>
  intro i h hi hlh hs hn o
  have hI : (0 : Int) ≤ (i : Int) ∧ (i : Int) < ((20 : Nat) : Int) := ⟨by omega, by omega⟩
  obtain ⟨o1, k1, q1⟩ := box_own (base := base) (t := 9) (h := h) (cs := usesV) (by omega) rfl
  generalize hh1 : h ++ [some (⟨usesV, 9⟩ : Blk)] = h1 at o1 k1 q1
  have e1 : run (Et base) 197 [] h = some (.slice (at0 h.length) 20 20, h1) := Am.r197 (lets fun y ey => by
   have : y = h1 := ey.trans hh1
   rw [this])
  have hs1 := hs.keepN k1
  have hn1 := hn.keepN k1
  have gu : Am.cell h1 h.length (0 + i * 1) = some (.string (shp ((i : Int) + 1))) := by
   have := uses_at (op := (i : Int) + 1) (by omega)
   rw [show Int.toNat ((i : Int) + 1 - 1) = i from by omega] at this
   rw [Nat.zero_add, Nat.mul_one]
   exact o1.at0 this
  obtain ⟨adn, rfl, gn⟩ := strs_at (base := base) (t := 0) hn1 (i := i) (by show i < 20; omega)
  obtain ⟨adw, rfl, gw⟩ := strs_at (base := base) (t := 0) hs1 (i := 0) h0
  have hnb : ∀ z ∈ nmL.getD i [], 0 ≤ z ∧ z ≤ 255 := by
   have hl : i < nmL.length := by show i < 20; omega
   have : nmL.getD i [] = nmL[i] := by simp [List.getD, hl]
   rw [this]
   exact nm_bytes _ (List.getElem_mem hl)
  have hwb : ∀ z ∈ ws.getD 0 [], 0 ≤ z ∧ z ≤ 255 := by
   have : ws.getD 0 [] = ws[0] := by simp [List.getD, h0]
   rw [this]
   exact (hws _ (List.getElem_mem h0)).2
  have heq := bstr_inj hnb hwb
  have hu3 : (shp ((i : Int) + 1)).size ≤ 3 := by
   rcases op_cases (op := (i : Int) + 1) (by omega) with e | e | e | e | e | e | e | e | e | e | e | e | e | e | e | e | e | e | e | e <;> rw [e] <;> decide
  rw [insF]
  by_cases c : nmL.getD i [] = ws.getD 0 []
  ·rw [if_pos c]
   rw [decide_eq_true c] at heq
   obtain ⟨o9, k9, q9⟩ := box_own (base := base) (t := 139) (h := h1) (cs := inV ⟨0, 0, 0, 0, 0, ⟨#[]⟩⟩) (by omega) rfl
   generalize hh9 : h1 ++ [some (⟨inV ⟨0, 0, 0, 0, 0, ⟨#[]⟩⟩, 139⟩ : Blk)] = h9 at o9 k9 q9
   obtain ⟨h10, e10, o10, k10, l10⟩ := o9.wr0 (i := 0) (new := inV ⟨(i : Int) + 1, 0, 0, 0, 0, ⟨#[]⟩⟩) (by simp) (by simp)
   have hz : setAt (inV ⟨0, 0, 0, 0, 0, ⟨#[]⟩⟩) 0 (inV ⟨(i : Int) + 1, 0, 0, 0, 0, ⟨#[]⟩⟩) = inV ⟨(i : Int) + 1, 0, 0, 0, 0, ⟨#[]⟩⟩ := rfl
   rw [hz] at o10
   have k110 : KB NoB h1 h10 := kFresh k9 k10 fun b hb => by omega
   have e11w : ((((ws.length : Nat) : Int) == IntKind.wrap .i64 (((shp ((i : Int) + 1)).size : Int) + (1 : Int)))) = (ws.length == (shp ((i : Int) + 1)).size + 1) := by
    rw [w64i (by omega) (by omega)]
    by_cases cc : ws.length = (shp ((i : Int) + 1)).size + 1
    ·have : ((ws.length : Nat) : Int) = ((shp ((i : Int) + 1)).size : Int) + 1 := by omega
     rw [beq_iff_eq.2 cc, beq_iff_eq.2 this]
    ·have : ((ws.length : Nat) : Int) ≠ ((shp ((i : Int) + 1)).size : Int) + 1 := by omega
     rw [beq_eq_false_iff_ne.2 cc, beq_eq_false_iff_ne.2 this]
   obtain ⟨h11, e11, o11, k11, l11⟩ := sets_loop (base := base) (b0 := b0) (xb := h1.length) (us := shp ((i : Int) + 1)) hu3 hws (fun b hb => by have := (haw b hb).1; omega) (shp ((i : Int) + 1)).size 0 h10 ⟨(i : Int) + 1, 0, 0, 0, 0, ⟨#[]⟩⟩ (ws.length == (shp ((i : Int) + 1)).size + 1) (by omega) (fun h _ => by simpa using h) (hs1.keepN k110) o10
   rw [show ((0 : Nat) : Int) = 0 from rfl] at e11
   generalize setsF (sb (shp ((i : Int) + 1))) ws (shp ((i : Int) + 1)).size 0 ⟨(i : Int) + 1, 0, 0, 0, 0, ⟨#[]⟩⟩ (ws.length == (shp ((i : Int) + 1)).size + 1) = p at e11 o11
   have k011 : KB (fun b => lo ≤ b) h h11 := KB.trans (kN k1 k110) k11 (fun _ _ h => h.elim) (fun b _ hb => by omega)
   obtain ⟨h21, e21, o21, k21, l21⟩ := (o.keep k011 fun b hb hk => by rw [blk_at0] at hb; omega).wr0 (i := 0) (new := inV p.1) (by simp) (by simp)
   have hz2 : setAt (inV ⟨0, 0, 0, 0, 0, ⟨#[]⟩⟩) 0 (inV p.1) = inV p.1 := rfl
   rw [hz2] at o21
   refine ⟨h21, .inl (loop_off (by decide) ?_), o21, KB.trans k011 k21 (fun _ _ h => .inr h) (fun b _ hb => .inl (by omega))⟩
   rw [B208_0_eq]
   refine ifT (decide_eq_true hI.2) (bs e1 (bS rfl (ifT hI (bs rfl ?_))))
   rw [Int.toNat_natCast]
   refine bT gu (ifT hI (bs rfl ?_))
   rw [Nat.mul_one]
   refine bT gn (ifT ⟨by decide, by omega⟩ (bs rfl ?_))
   rw [Int.toNat_zero, Nat.zero_mul]
   refine bT gw (ifF (by rw [heq]; decide) (lets fun y ey => ?_))
   rw [hh9] at ey
   subst ey
   rw [w64i (n := (i : Int) + 1) (by omega) (by omega)]
   refine bs e10 ?_
   rw [e11w]
   exact bs e11 (ifT rfl (bs rfl (bs rfl (bB rfl (qi o11 (bs e21 rfl))))))
  ·rw [if_neg c]
   rw [decide_eq_false c] at heq
   obtain ⟨h2, e2, o2, k2⟩ := ih (i + 1) h1 (by omega) (by omega) hs1 hn1 (o.keepN k1)
   have step : B208_0 base [some (.pointer (at0 b0)), some (.slice (some adw) ws.length ws.length), some (.slice (some adn) 20 20), some (.int .i64 (i : Int))] h = some (0, [some (.pointer (at0 b0)), some (.slice (some adw) ws.length ws.length), some (.slice (some adn) 20 20), some (.int .i64 ((i + 1 : Nat) : Int))], h1) := by
    rw [B208_0_eq]
    refine ifT (decide_eq_true hI.2) (bs e1 (bS rfl (ifT hI (bs rfl ?_))))
    rw [Int.toNat_natCast]
    refine bT gu (ifT hI (bs rfl ?_))
    rw [Nat.mul_one]
    refine bT gn (ifT ⟨by decide, by omega⟩ (bs rfl ?_))
    rw [Int.toNat_zero, Nat.zero_mul]
    refine bT gw (ifT (by rw [heq]; decide) ?_)
    rw [w64i (n := (i : Int) + 1) (by omega) (by omega)]
    rfl
   exact ⟨h2, e2.imp (loop_on step) fun ⟨a, b⟩ => ⟨loop_on step a, b⟩, o2, KB.trans k1 k2 (fun _ _ h => h.elim) (fun _ _ h => h)⟩
def insL (zs : List Int) : In × Bool := insF (splitL zs 32) 20 0
theorem splitL_ok {zs : List Int} (hz : ∀ x ∈ zs, 0 ≤ x ∧ x ≤ 255) (hl : zs.length ≤ 1048576) (c : Int) : (∀ w ∈ splitL zs c, w.length ≤ 1048576 ∧ ∀ z ∈ w, 0 ≤ z ∧ z ≤ 255) ∧ 0 < (splitL zs c).length ∧ (splitL zs c).length ≤ 1048577 := by
 refine ⟨fun w hw => ⟨?_, ?_⟩, ?_, ?_⟩
 ·have := splitF_short c (zs.length + 1) 0 0 [] (fun w hw => nomatch hw) w hw
  omega
 ·exact splitF_bytes hz c (zs.length + 1) 0 0 [] (fun w hw => nomatch hw) w hw
 ·exact splitF_pos zs c (zs.length + 1) 0 0 [] (by omega) (.inl (by omega))
 ·have := splitF_len zs c (zs.length + 1) 0 0 []
  simp at this
  unfold splitL
  omega
theorem l8Ins_run {base : Nat} {h : AH} {zs : List Int} (hz : ∀ x ∈ zs, 0 ≤ x ∧ x ≤ 255) (hl : zs.length ≤ 1048576) (hb : base ≤ h.length) :
  ∃ h', run (Et base) 208 [.string (bstr zs)] h = some (.tuple #[.agg (inV (insL zs).1).toArray, .bool (insL zs).2], h') ∧ KB NoB h h' := by
 obtain ⟨s1, s2, s3⟩ := splitL_ok hz hl 32
 obtain ⟨o1, k1, q1⟩ := box_own (base := base) (t := 139) (h := h) (cs := inV ⟨0, 0, 0, 0, 0, ⟨#[]⟩⟩) hb rfl
 generalize hh1 : h ++ [some (⟨inV ⟨0, 0, 0, 0, 0, ⟨#[]⟩⟩, 139⟩ : Blk)] = h1 at o1 k1 q1
 obtain ⟨a2, h2, e2, o2, f2, k2⟩ := l8Split_run (base := base) (h := h1) (s := bstr zs) (c := 32) (by rw [bstr_size]; exact hl) (by omega)
 rw [sb_bstr hz] at e2 o2
 have n2 := k2.1
 obtain ⟨o4, k4, q4⟩ := box_own (base := base) (t := 9) (h := h2) (cs := strsV nmL) (by omega) rfl
 generalize hh4 : h2 ++ [some (⟨strsV nmL, 9⟩ : Blk)] = h4 at o4 k4 q4
 have e4 : run (Et base) 219 [] h2 = some (.slice (at0 h2.length) 20 20, h4) := Am.r219 (lets fun y ey => by
  have : y = h4 := ey.trans hh4
  rw [this])
 have k14 := kN k2 k4
 obtain ⟨h6, e6, o6, k6⟩ := ins_loop (base := base) (b0 := h.length) (lo := h4.length) s1 s2 s3 (by omega) (by omega) (fun b hb => by have := f2 b hb; have := (o2.lt hb).2; omega) (fun b hb => by rw [blk_at0] at hb; omega) 20 0 h4 (by omega) (Nat.le_refl _) (o2.keepN k4).sl o4.sl (o1.keepN k14)
 rw [show ((0 : Nat) : Int) = 0 from rfl] at e6
 have k06 : KB NoB h h6 := kFresh (kN k1 k14) k6 fun i hi => by omega
 unfold insL
 rcases e6 with e6 | ⟨e6, ez⟩
 ·refine ⟨h6, Am.r208 (lets fun y ey => ?_), k06⟩
  rw [hh1] at ey
  subst ey
  exact bs e2 (bS rfl (bs e4 (bS rfl (bs e6 (ifT rfl (bs rfl (bB rfl (qi o6 rfl))))))))
 ·rw [ez] at o6 ⊢
  obtain ⟨h16, e16, o16, k16, l16⟩ := o6.wr0 (i := 0) (new := inV ⟨0, 0, 0, 0, 0, ⟨#[]⟩⟩) (by simp) (by simp)
  have hz2 : setAt (inV ⟨0, 0, 0, 0, 0, ⟨#[]⟩⟩) 0 (inV ⟨0, 0, 0, 0, 0, ⟨#[]⟩⟩) = inV ⟨0, 0, 0, 0, 0, ⟨#[]⟩⟩ := rfl
  rw [hz2] at o16
  refine ⟨h16, Am.r208 (lets fun y ey => ?_), kFresh k06 k16 fun i hi => by omega⟩
  rw [hh1] at ey
  subst ey
  exact bs e2 (bS rfl (bs e4 (bS rfl (bs e6 (ifF (show ¬ (2 : Nat) = 1 by decide) (ifT rfl (bs rfl (bs e16 (qi o16 rfl)))))))))
end Go.Proofs.Ytjmkbglnjklbcaa.Am
set_option linter.unusedSimpArgs false
set_option linter.unusedVariables false
namespace Go.Proofs.Ytjmkbglnjklbcaa.Am
open Go Go.RowKit
end Go.Proofs.Ytjmkbglnjklbcaa.Am
set_option linter.unusedSimpArgs false
set_option linter.unusedVariables false
namespace Go.Proofs.Ytjmkbglnjklbcaa.Am
open Go Go.RowKit
end Go.Proofs.Ytjmkbglnjklbcaa.Am
set_option linter.unusedSimpArgs false
set_option linter.unusedVariables false
namespace Go.Proofs.Ytjmkbglnjklbcaa.Am
open Go Go.RowKit
theorem setI_size {x : In} {c : Int} {w : List Int} {B : Nat} (hx : x.s.size ≤ B) (hw : w.length ≤ B) : (setI x c w).1.s.size ≤ B := by
 unfold setI
 split
 ·show (bstr w).size ≤ B
  rw [bstr_size]; exact hw
 ·split
  ·exact hx
  ·split
   ·exact hx
   ·split
    ·exact hx
    ·exact hx
theorem setsF_size {us : List Int} {ws : List (List Int)} {B : Nat} (hw : ∀ w ∈ ws, w.length ≤ B) : ∀ (d k : Nat) (x : In) (ok : Bool), x.s.size ≤ B → (setsF us ws d k x ok).1.s.size ≤ B
 | 0, _, _, _, h => h
 | d + 1, k, x, ok, h => by
  rw [setsF]
  split
  ·refine setsF_size hw d _ _ _ (setI_size h ?_)
   by_cases hk : k + 1 < ws.length
   ·have : ws.getD (k + 1) [] = ws[k + 1] := by simp [List.getD, hk]
    rw [this]
    exact hw _ (List.getElem_mem hk)
   ·have : ws.getD (k + 1) [] = [] := by simp [List.getD, hk]
    rw [this]
    exact Nat.zero_le _
  ·exact h
theorem insF_size {ws : List (List Int)} {B : Nat} (hw : ∀ w ∈ ws, w.length ≤ B) : ∀ (d i : Nat), (insF ws d i).1.s.size ≤ B
 | 0, _ => Nat.zero_le _
 | d + 1, i => by
  rw [insF]
  split
  ·exact setsF_size hw _ _ _ _ (Nat.zero_le _)
  ·exact insF_size hw d _
def pcF (ls : List (List Int)) : Nat → Nat → List In → Option (List In)
 | 0, _, out => some out
 | d + 1, i, out => if (insL (ls.getD i [])).2 = true then pcF ls d (i + 1) (out ++ [(insL (ls.getD i [])).1]) else none
def parseL (zs : List Int) : List In × Bool :=
 if (!emp (bstr ((splitL zs 10).getD ((splitL zs 10).length - 1) []))) = true then ([], false) else match pcF (splitL zs 10) ((splitL zs 10).length - 1) 0 [] with
  | some o => if codeOk o = true then (o, true) else ([], false)
  | none => ([], false)
theorem parse_loop {base lo : Nat} {ls : List (List Int)} {al a4 : Option Addr} (hls : ∀ w ∈ ls, w.length ≤ 1048576 ∧ ∀ z ∈ w, 0 ≤ z ∧ z ≤ 255) (hlen : ls.length ≤ 1048577) (hlo : base ≤ lo) (hal : ∀ b, blk al b → b < lo) {N : Nat} (hN : N ≤ ls.length) : ∀ (d i : Nat) (h : AH) (ao : Option Addr) (out : List In), i + d = N → out.length = i → lo ≤ h.length → Sl h al (strsV ls) → Own base 139 h ao (insR out) → (∀ b, blk ao b → lo ≤ b) → (∀ x ∈ out, x.s.size ≤ 1048576) →
  ∃ h', KB (fun b => lo ≤ b) h h' ∧ (match pcF ls d i out with
   | some o => ∃ ao', loopL (B187_0 base) [some (.slice a4 0 0), some (.slice al ls.length ls.length), some (.int .i64 (N : Int)), some (.slice ao out.length out.length), some (.int .i64 (i : Int))] h = some (2, [some (.slice a4 0 0), some (.slice ao' o.length o.length)], h') ∧ Own base 139 h' ao' (insR o) ∧ (∀ b, blk ao' b → lo ≤ b) ∧ (∀ x ∈ o, x.s.size ≤ 1048576) ∧ o.length ≤ N
   | none => loopL (B187_0 base) [some (.slice a4 0 0), some (.slice al ls.length ls.length), some (.int .i64 (N : Int)), some (.slice ao out.length out.length), some (.int .i64 (i : Int))] h = some (1, [some (.slice a4 0 0), some (.bool false)], h')) := by
 intro d
 induction d with
 | zero =>
  intro i h ao out hi ho hlh hs ow hao hsz
  refine ⟨h, KB.refl _ _, ao, loop_off (by decide) ?_, ow, hao, hsz, by omega⟩
  rw [B187_0_eq]
  exact ifF (by simp; omega) rfl
 | succ d ih =>
  intro i h ao out hi ho hlh hs ow hao hsz
  have hI : (0 : Int) ≤ (i : Int) ∧ (i : Int) < ((ls.length : Nat) : Int) := ⟨by omega, by omega⟩
  have hmem : ls.getD i [] ∈ ls := by
   have hl : i < ls.length := by omega
   have : ls.getD i [] = ls[i] := by simp [List.getD, hl]
   rw [this]
   exact List.getElem_mem hl
  obtain ⟨w1, w2⟩ := hls _ hmem
  obtain ⟨ad, rfl, g⟩ := strs_at (base := base) (t := 0) hs (i := i) (by omega)
  obtain ⟨h3, e3, k3⟩ := l8Ins_run (base := base) (h := h) w2 w1 (by omega)
  have n3 := k3.1
  have hxs : (insL (ls.getD i [])).1.s.size ≤ 1048576 := insF_size (fun w hw => ((splitL_ok w2 w1 32).1 w hw).1) _ _
  rw [pcF]
  generalize insL (ls.getD i []) = p at e3 hxs
  obtain ⟨x, ok⟩ := p
  simp only at e3 hxs ⊢
  obtain ⟨o13, k13, q13⟩ := box_own (base := base) (t := 139) (h := h3) (cs := inV ⟨0, 0, 0, 0, 0, ⟨#[]⟩⟩) (by omega) rfl
  generalize hh13 : h3 ++ [some (⟨inV ⟨0, 0, 0, 0, 0, ⟨#[]⟩⟩, 139⟩ : Blk)] = h13 at o13 k13 q13
  obtain ⟨h14, e14, o14, k14, l14⟩ := o13.wr0 (i := 0) (new := inV x) (by simp) (by simp)
  have hz : setAt (inV ⟨0, 0, 0, 0, 0, ⟨#[]⟩⟩) 0 (inV x) = inV x := rfl
  rw [hz] at o14
  have k314 : KB NoB h3 h14 := kFresh k13 k14 fun b hb => by omega
  have k014 := kN k3 k314
  have n14 := k314.1
  have head : ∀ {r : Nat × Slots × AH}, ((if (!ok) = true then
    some (1, [some (Value.slice a4 0 0), some (.bool false)], h14)
    else
    ((Am.cell h14 h3.length 0).bind (getI .i64)).bind fun n15 =>
    ((Am.cell h14 h3.length 1).bind (getI .i64)).bind fun n16 =>
    ((Am.cell h14 h3.length 2).bind (getI .i64)).bind fun n17 =>
    ((Am.cell h14 h3.length 3).bind (getI .i64)).bind fun n18 =>
    ((Am.cell h14 h3.length 4).bind (getI .i64)).bind fun n19 =>
    ((Am.cell h14 h3.length 5).bind getStr).bind fun s20 =>
    (some (h14 ++ [some ⟨[(.int .i64 n15), (.int .i64 n16), (.int .i64 n17), (.int .i64 n18), (.int .i64 n19), (.string s20)], 139⟩])).bind fun h21 =>
    (Am.app base h21 139 6 56 ao out.length (rawAt h21 (some ⟨(List.length h14), 0, none⟩) (1 * 6)) 1).bind fun p22 =>
    ((some p22.1).bind getS).bind fun l23 =>
    some (0, [some (.slice a4 0 0), some (.slice (some ad) ls.length ls.length), some (.int .i64 (N : Int)), some (.slice l23.1 l23.2 l23.2), some (.int .i64 (IntKind.wrap .i64 ((i : Int) + (1 : Int))))], p22.2)) = some r) →
    B187_0 base [some (.slice a4 0 0), some (.slice (some ad) ls.length ls.length), some (.int .i64 (N : Int)), some (.slice ao out.length out.length), some (.int .i64 (i : Int))] h = some r := by
   intro r hr
   rw [B187_0_eq]
   refine ifT (decide_eq_true (by omega)) (ifT hI (bs rfl ?_))
   rw [Int.toNat_natCast, Nat.mul_one]
   refine bT g (bs e3 (bs rfl (bs (v := inV x) rfl (bI rfl (bI rfl (bI rfl (bI rfl (bI rfl (bT rfl (bB rfl (lets fun y ey => ?_))))))))))) 
   rw [hh13] at ey
   subst ey
   exact bs e14 hr
  cases ok with
  | false =>
   rw [if_neg (by decide)]
   exact ⟨h14, k014.mono fun _ _ h => h.elim, loop_off (by decide) (head (ifT rfl rfl))⟩
  | true =>
   rw [if_pos rfl]
   have ow14 := ow.keepN k014
   obtain ⟨a6, h6, e6, o6, k6, b6, n6⟩ := Am.app1 (bytes := 56) ow14 (n := out.length) (sz := 6) (cs := inV x) (insR_len out) rfl (by decide) rfl (by omega) (by omega) (by omega)
   have eR : insR out ++ inV x = insR (out ++ [x]) := by rw [insR_app]; rfl
   rw [eR] at o6
   have k06 : KB (fun b => lo ≤ b) h h6 := KB.trans k014 k6 (fun _ _ h => h.elim) (fun b _ hb => hao b hb)
   obtain ⟨h7, k7, m7⟩ := ih (i + 1) h6 a6 (out ++ [x]) (by omega) (by simp; omega) (by omega) (hs.keep k06 fun b hb hk => by have := hal b hb; omega) o6 (fun b hb => by have := b6 b hb; omega) (fun z hz' => by
    rcases List.mem_append.1 hz' with h | h
    ·exact hsz z h
    ·rw [List.mem_singleton] at h; subst h; exact hxs)
   have body : B187_0 base [some (.slice a4 0 0), some (.slice (some ad) ls.length ls.length), some (.int .i64 (N : Int)), some (.slice ao out.length out.length), some (.int .i64 (i : Int))] h = some (0, [some (.slice a4 0 0), some (.slice (some ad) ls.length ls.length), some (.int .i64 (N : Int)), some (.slice a6 (out ++ [x]).length (out ++ [x]).length), some (.int .i64 ((i + 1 : Nat) : Int))], h6) := by
    refine head (ifF (by decide) (qi o14 (lets fun y ey => ?_)))
    subst ey
    refine bs e6 (bS rfl ?_)
    rw [w64i (n := (i : Int) + 1) (by omega) (by omega)]
    simp
   refine ⟨h7, KB.trans k06 k7 (fun _ _ h => h) (fun _ _ h => h), ?_⟩
   cases hp : pcF ls d (i + 1) (out ++ [x]) with
   | none => rw [hp] at m7; exact loop_on body m7
   | some o => rw [hp] at m7; obtain ⟨ao', y1, y2⟩ := m7; exact ⟨ao', loop_on body y1, y2⟩
theorem specParse_run {base : Nat} {h : AH} {s : ByteArray} (hs : s.size ≤ 1048576) (hb : base ≤ h.length) :
  ∃ ao h', run (Et base) 187 [.string s] h = some (.tuple #[.slice ao (parseL (sb s)).1.length (parseL (sb s)).1.length, .bool (parseL (sb s)).2], h') ∧ Own base 139 h' ao (insR (parseL (sb s)).1) ∧ (∀ b, blk ao b → h.length ≤ b) ∧ (∀ x ∈ (parseL (sb s)).1, x.s.size ≤ 1048576) ∧ KB NoB h h' := by
 obtain ⟨s1, s2, s3⟩ := splitL_ok (sb_bytes s) (by rw [sb_len]; exact hs) 10
 obtain ⟨o1, k1, q1⟩ := box_own (base := base) (t := 139) (h := h) (cs := []) hb rfl
 generalize hh1 : h ++ [some (⟨[], 139⟩ : Blk)] = h1 at o1 k1 q1
 obtain ⟨al, h2, e2, o2, f2, k2⟩ := l8Split_run (base := base) (h := h1) (c := 10) hs (by omega)
 have n2 := k2.1
 unfold parseL
 generalize splitL (sb s) 10 = ls at e2 o2 s1 s2 s3
 have hw : IntKind.wrap .i64 (((ls.length : Nat) : Int) - 1) = ((ls.length - 1 : Nat) : Int) := by rw [w64i (by omega) (by omega)]; omega
 obtain ⟨ad, rfl, g⟩ := strs_at (base := base) (t := 0) o2.sl (i := ls.length - 1) (by omega)
 have o1' := o1.keepN k2
 have k02 := kN k1 k2
 have fl : ∀ b, blk (at0 h.length) b → h.length ≤ b := fun b hb' => by rw [blk_at0] at hb'; omega
 have start : ∀ {r : Value × AH}, ((if (!emp (bstr (ls.getD (ls.length - 1) []))) = true then
   some (Value.tuple #[(.slice (some ⟨(List.length h), 0, none⟩) 0 0), (.bool false)], h2)
   else
   (some (h2 ++ [some ⟨[], 139⟩])).bind fun h6 =>
   (loopL (B187_0 base) [some (.slice (some ⟨(List.length h), 0, none⟩) 0 0), some (.slice (some ad) ls.length ls.length), some (.int .i64 ((ls.length - 1 : Nat) : Int)), some (.slice (some ⟨(List.length h2), 0, none⟩) 0 0), some (.int .i64 (0 : Int))] h6).bind fun q7 =>
   (if q7.1 = 1 then
   ((sget q7.2.1 0).bind getS).bind fun l8 =>
   ((sget (q7.2.1.tail) 0).bind getB).bind fun b9 =>
   some ((.tuple #[(.slice l8.1 l8.2 l8.2), (.bool b9)]), q7.2.2)
   else
   (if q7.1 = 2 then
   ((sget q7.2.1 0).bind getS).bind fun l10 =>
   ((sget (q7.2.1.tail) 0).bind getS).bind fun l11 =>
   (run (Et base) 105 [(.slice l11.1 l11.2 l11.2)] q7.2.2).bind fun r12 =>
   ((some r12.1).bind getB).bind fun b13 =>
   (if (!b13) = true then
   some ((.tuple #[(.slice l10.1 l10.2 l10.2), (.bool false)]), r12.2)
   else
   some ((.tuple #[(.slice l11.1 l11.2 l11.2), (.bool true)]), r12.2))
   else
   none))) = some r) → run (Et base) 187 [.string s] h = some r := by
  intro r hr
  refine Am.r187 (lets fun y ey => ?_)
  rw [hh1] at ey
  subst ey
  refine bs e2 (bS rfl ?_)
  rw [hw]
  refine ifT ⟨by omega, by omega⟩ (bs rfl ?_)
  rw [Int.toNat_natCast, Nat.mul_one]
  exact bT g hr
 cases c0 : emp (bstr (ls.getD (ls.length - 1) [])) with
 | false =>
  rw [c0] at start
  rw [if_pos (by decide)]
  exact ⟨at0 h.length, h2, start (ifT rfl rfl), o1', fl, fun x hx => (by cases hx), k02⟩
 | true =>
  rw [c0] at start
  rw [if_neg (by decide)]
  obtain ⟨o6, k6, q6'⟩ := box_own (base := base) (t := 139) (h := h2) (cs := []) (by omega) rfl
  generalize hh6 : h2 ++ [some (⟨[], 139⟩ : Blk)] = h6 at o6 k6 q6'
  obtain ⟨h7, k7, m7⟩ := parse_loop (base := base) (lo := h2.length) (a4 := at0 h.length) s1 s3 (by omega) (fun b hb' => (o2.lt hb').2) (N := ls.length - 1) (by omega) (ls.length - 1) 0 h6 (at0 h2.length) [] (by omega) rfl (by omega) (o2.keepN k6).sl o6 (fun b hb' => by rw [blk_at0] at hb'; omega) (fun x hx => (by cases hx))
  have n7 := k7.1
  have k07 : KB NoB h h7 := kFresh (kN k02 k6) k7 fun i hi => by omega
  have o17 := (o1'.keepN k6).keep k7 fun b hb' hk => by rw [blk_at0] at hb'; omega
  cases hp : pcF ls (ls.length - 1) 0 [] with
  | none =>
   rw [hp] at m7
   refine ⟨at0 h.length, h7, start (ifF (by decide) (lets fun y ey => ?_)), o17, fl, fun x hx => (by cases hx), k07⟩
   have ey2 : y = h6 := by rw [ey]; exact hh6
   subst ey2
   exact bs m7 (ifT rfl (bS rfl (bB rfl rfl)))
  | some o =>
   rw [hp] at m7
   obtain ⟨ao', y1, y2, y3, y4, y5⟩ := m7
   obtain ⟨h12, e12, k12⟩ := specCodeOk_run (base := base) (fun x hx => by have := y4 x hx; omega) (by omega) y2.sl (by omega)
   simp only
   cases cc : codeOk o with
   | false =>
    rw [cc] at e12
    rw [if_neg (by decide)]
    refine ⟨at0 h.length, h12, start (ifF (by decide) (lets fun y ey => ?_)), o17.keepN k12, fl, fun x hx => (by cases hx), kN k07 k12⟩
    have ey2 : y = h6 := by rw [ey]; exact hh6
    subst ey2
    exact bs y1 (ifF (show ¬ (2 : Nat) = 1 by decide) (ifT rfl (bS rfl (bS rfl (bs e12 (bB rfl (ifT rfl rfl)))))))
   | true =>
    rw [cc] at e12
    rw [if_pos rfl]
    refine ⟨ao', h12, start (ifF (by decide) (lets fun y ey => ?_)), y2.keepN k12, fun b hb' => by have := y3 b hb'; omega, y4, kN k07 k12⟩
    have ey2 : y = h6 := by rw [ey]; exact hh6
    subst ey2
    exact bs y1 (ifF (show ¬ (2 : Nat) = 1 by decide) (ifT rfl (bS rfl (bS rfl (bs e12 (bB rfl (ifF (by decide) rfl)))))))
theorem emp_size (s : ByteArray) : emp s = (s.size == 0) := by
 unfold emp
 rw [toList_data, toList_data]
 show (s.data.toList == []) = (s.size == 0)
 have : s.size = s.data.toList.length := by simp
 rw [this]
 cases s.data.toList <;> rfl
def specB2 (x : In) (n : Int) : Bool :=
 inB n 1 200 && (inB x.op 1 20 && (regB (shp x.op) 65 x.a && (regB (shp x.op) 67 x.c && ((if (x.op == (11 : Int)) = true then inB x.b 1 6 else regB (shp x.op) 66 x.b) && ((if (x.op == (2 : Int)) = true then atomOk x.s else (x.s.size == 0)) && numB x n)))))
theorem specB2_eq (x : In) (n : Int) : specB2 x n = specB x n := by
 unfold specB2 specB
 rw [emp_size]
def allIns2 (n : Int) : List In → Bool
 | [] => true
 | x :: r => specB2 x n && allIns2 n r
theorem allIns2_eq (n : Int) : ∀ l, allIns2 n l = allIns n l
 | [] => rfl
 | x :: r => by rw [allIns2, allIns, specB2_eq, allIns2_eq n r]
def codeOk2 (l : List In) : Bool := inB (l.length : Int) 1 200 && ((lastOp l == (19 : Int) || lastOp l == (12 : Int)) && allIns2 (l.length : Int) l)
theorem codeOk2_eq (l : List In) : codeOk2 l = codeOk l := by unfold codeOk2 codeOk; rw [allIns2_eq]
def parse2 (zs : List Int) : Bool := ((splitL zs 10).getD ((splitL zs 10).length - 1) []).isEmpty && (match pcF (splitL zs 10) ((splitL zs 10).length - 1) 0 [] with
  | some o => codeOk2 o
  | none => false)
theorem parse2_ok {zs : List Int} (h : parse2 zs = true) : (parseL zs).2 = true := by
 unfold parse2 at h
 rw [Bool.and_eq_true] at h
 obtain ⟨h1, h2⟩ := h
 unfold parseL
 have e : (splitL zs 10).getD ((splitL zs 10).length - 1) [] = [] := List.isEmpty_iff.1 h1
 rw [e, if_neg (by rw [emp_size, bstr_size]; decide)]
 cases hp : pcF (splitL zs 10) ((splitL zs 10).length - 1) 0 [] with
 | none => rw [hp] at h2; cases h2
 | some o =>
  rw [hp] at h2
  simp only at h2 ⊢
  rw [codeOk2_eq] at h2
  rw [if_pos h2]
theorem parse_ok {zs : List Int} (h : (parseL zs).2 = true) : codeOk (parseL zs).1 = true := by
 unfold parseL at h ⊢
 split
 ·rename_i c; rw [if_pos c] at h; cases h
 ·rename_i c
  rw [if_neg c] at h
  split
  ·rename_i o ho
   rw [ho] at h
   simp only at h
   split
   ·rename_i c2; exact c2
   ·rename_i c2; rw [if_neg c2] at h; cases h
  ·rename_i ho
   rw [ho] at h
   cases h
def cdL : List ByteArray := [⟨#[116, 97, 107, 101, 32, 48, 10, 107, 105, 110, 100, 32, 48, 32, 50, 32, 53, 10, 115, 97, 121, 32, 48, 10, 106, 117, 109, 112, 32, 48, 10, 110, 105, 108, 32, 49, 10, 104, 101, 97, 100, 32, 49, 32, 48, 10, 116, 97, 105, 108, 32, 50, 32, 48, 10, 115, 97, 121, 32, 49, 10, 106, 117, 109, 112, 32, 48, 10]⟩, ⟨#[116, 97, 107, 101, 32, 48, 10, 115, 101, 108, 102, 32, 49, 10, 105, 110, 116, 32, 50, 32, 49, 10, 116, 117, 112, 108, 101, 32, 51, 32, 48, 32, 51, 10, 101, 108, 101, 109, 32, 52, 32, 51, 32, 50, 10, 97, 100, 100, 32, 53, 32, 52, 32, 50, 10, 115, 97, 121, 32, 51, 10, 115, 97, 109, 101, 32, 48, 32, 49, 32, 49, 48, 10, 115, 101, 110, 100, 32, 49, 32, 53, 10, 106, 117, 109, 112, 32, 48, 10, 115, 101, 110, 100, 32, 48, 32, 51, 10, 106, 117, 109, 112, 32, 48, 10]⟩, ⟨#[105, 110, 116, 32, 49, 32, 48, 10, 116, 97, 107, 101, 32, 48, 10, 107, 105, 110, 100, 32, 48, 32, 49, 32, 53, 10, 97, 100, 100, 32, 49, 32, 49, 32, 48, 10, 106, 117, 109, 112, 32, 49, 10, 115, 97, 121, 32, 49, 10, 101, 110, 100, 32, 48, 10]⟩, ⟨#[116, 97, 107, 101, 32, 48, 10, 109, 97, 107, 101, 32, 49, 32, 48, 32, 52, 10, 108, 105, 110, 107, 32, 49, 10, 106, 117, 109, 112, 32, 48, 10, 115, 101, 108, 102, 32, 50, 10, 115, 97, 121, 32, 48, 10, 116, 97, 107, 101, 32, 51, 10, 101, 110, 100, 32, 51, 10]⟩, ⟨#[110, 105, 108, 32, 49, 10, 116, 97, 107, 101, 32, 48, 10, 99, 111, 110, 115, 32, 49, 32, 48, 32, 49, 10, 115, 97, 121, 32, 49, 10, 106, 117, 109, 112, 32, 49, 10]⟩, ⟨#[116, 97, 107, 101, 32, 48, 10, 101, 110, 100, 32, 48, 10]⟩]
def czL : List (List Int) := [[116, 97, 107, 101, 32, 48, 10, 107, 105, 110, 100, 32, 48, 32, 50, 32, 53, 10, 115, 97, 121, 32, 48, 10, 106, 117, 109, 112, 32, 48, 10, 110, 105, 108, 32, 49, 10, 104, 101, 97, 100, 32, 49, 32, 48, 10, 116, 97, 105, 108, 32, 50, 32, 48, 10, 115, 97, 121, 32, 49, 10, 106, 117, 109, 112, 32, 48, 10], [116, 97, 107, 101, 32, 48, 10, 115, 101, 108, 102, 32, 49, 10, 105, 110, 116, 32, 50, 32, 49, 10, 116, 117, 112, 108, 101, 32, 51, 32, 48, 32, 51, 10, 101, 108, 101, 109, 32, 52, 32, 51, 32, 50, 10, 97, 100, 100, 32, 53, 32, 52, 32, 50, 10, 115, 97, 121, 32, 51, 10, 115, 97, 109, 101, 32, 48, 32, 49, 32, 49, 48, 10, 115, 101, 110, 100, 32, 49, 32, 53, 10, 106, 117, 109, 112, 32, 48, 10, 115, 101, 110, 100, 32, 48, 32, 51, 10, 106, 117, 109, 112, 32, 48, 10], [105, 110, 116, 32, 49, 32, 48, 10, 116, 97, 107, 101, 32, 48, 10, 107, 105, 110, 100, 32, 48, 32, 49, 32, 53, 10, 97, 100, 100, 32, 49, 32, 49, 32, 48, 10, 106, 117, 109, 112, 32, 49, 10, 115, 97, 121, 32, 49, 10, 101, 110, 100, 32, 48, 10], [116, 97, 107, 101, 32, 48, 10, 109, 97, 107, 101, 32, 49, 32, 48, 32, 52, 10, 108, 105, 110, 107, 32, 49, 10, 106, 117, 109, 112, 32, 48, 10, 115, 101, 108, 102, 32, 50, 10, 115, 97, 121, 32, 48, 10, 116, 97, 107, 101, 32, 51, 10, 101, 110, 100, 32, 51, 10], [110, 105, 108, 32, 49, 10, 116, 97, 107, 101, 32, 48, 10, 99, 111, 110, 115, 32, 49, 32, 48, 32, 49, 10, 115, 97, 121, 32, 49, 10, 106, 117, 109, 112, 32, 49, 10], [116, 97, 107, 101, 32, 48, 10, 101, 110, 100, 32, 48, 10]]
theorem cd_cz : cdL.map sb = czL := by kernel_rfl
theorem cz_ok : czL.all parse2 = true := by kernel_rfl
theorem cd_size : ∀ s ∈ cdL, s.size ≤ 1048576 := by decide
end Go.Proofs.Ytjmkbglnjklbcaa.Am
set_option linter.unusedSimpArgs false
set_option linter.unusedVariables false
namespace Go.Proofs.Ytjmkbglnjklbcaa.Am
open Go Go.RowKit
theorem regB_of {s : ByteArray} {c z : Int} (h0 : 0 ≤ z) (h1 : z < 8) : regB s c (if hasL s c = true then z else 0) = true := by
 unfold regB
 cases h : hasL s c with
 | false => rfl
 | true =>
  simp only [Bool.not_true, if_true, inB, Bool.and_eq_true, decide_eq_true_eq, Bool.false_eq_true, if_false]
  omega
theorem strs3_ok {s : ByteArray} (h : s ∈ ([⟨#[111, 107]⟩, ⟨#[97]⟩, ⟨#[98, 97, 100]⟩] : List ByteArray)) : atomOk s = true ∧ s.size ≤ 12 := by
 have : ∀ s ∈ ([⟨#[111, 107]⟩, ⟨#[97]⟩, ⟨#[98, 97, 100]⟩] : List ByteArray), atomOk s = true ∧ s.size ≤ 12 := by
  simp only [List.forall_mem_cons]
  exact ⟨⟨by decide, by decide⟩, ⟨by decide, by decide⟩, ⟨by decide, by decide⟩, fun _ h => nomatch h⟩
 exact this s h
theorem l8Draw_run {base cb : Nat} {h : AH} {n : Int} (x : CurR base cb h) (hn0 : 1 ≤ n) (hn : n ≤ 200) : ∃ (y : In) (h' : AH), run (Et base) 189 [.pointer (at0 cb), .int .i64 n] h = some (.agg (inV y).toArray, h') ∧ specB y n = true ∧ CurR base cb h' ∧ KB (· = cb) h h' := by
 have hlt := x.lt
 obtain ⟨o1, k1, q1⟩ := box_own (base := base) (t := 139) (h := h) (cs := inV ⟨0, 0, 0, 0, 0, ⟨#[]⟩⟩) (by omega) rfl
 generalize hh1 : h ++ [some (⟨inV ⟨0, 0, 0, 0, 0, ⟨#[]⟩⟩, 139⟩ : Blk)] = h1 at o1 k1 q1
 obtain ⟨z, h2, e2, z0, z1, _, x2, k2, l2⟩ := l1Below_run (n := 20) (x.keepN k1) (by omega)
 have z1 := z1 (by omega)
 obtain ⟨op, hop⟩ : ∃ op : Int, op = 1 + z := ⟨_, rfl⟩
 have hw : IntKind.wrap .i64 ((1 : Int) + z) = op := by rw [hop]; exact w64i (by omega) (by omega)
 obtain ⟨o4, k4, q4⟩ := box_own (base := base) (t := 139) (h := h2) (cs := inV ⟨0, 0, 0, 0, 0, ⟨#[]⟩⟩) (by omega) rfl
 generalize hh4 : h2 ++ [some (⟨inV ⟨0, 0, 0, 0, 0, ⟨#[]⟩⟩, 139⟩ : Blk)] = h4 at o4 k4 q4
 obtain ⟨h5, e5, o5, k5, l5⟩ := o4.wr0 (i := 0) (new := inV ⟨op, 0, 0, 0, 0, ⟨#[]⟩⟩) (by simp) (by simp)
 have hz5 : setAt (inV ⟨0, 0, 0, 0, 0, ⟨#[]⟩⟩) 0 (inV ⟨op, 0, 0, 0, 0, ⟨#[]⟩⟩) = inV ⟨op, 0, 0, 0, 0, ⟨#[]⟩⟩ := rfl
 rw [hz5] at o5
 have k25 : KB NoB h2 h5 := kFresh k4 k5 fun b hb => by omega
 obtain ⟨o6, k6, q6⟩ := box_own (base := base) (t := 9) (h := h5) (cs := usesV) (by omega) rfl
 generalize hh6 : h5 ++ [some (⟨usesV, 9⟩ : Blk)] = h6 at o6 k6 q6
 have e6 : run (Et base) 197 [] h5 = some (.slice (at0 h5.length) 20 20, h6) := Am.r197 (lets fun y ey => by
  have : y = h6 := ey.trans hh6
  rw [this])
 have gu : Am.cell h6 h5.length (0 + Int.toNat (op - 1) * 1) = some (.string (shp op)) := by
  rw [Nat.zero_add, Nat.mul_one]
  exact o6.at0 (uses_at (op := op) (by omega))
 have hus : (shp op).size ≤ 9223372036854775807 := by
  rcases op_cases (op := op) (by omega) with e | e | e | e | e | e | e | e | e | e | e | e | e | e | e | e | e | e | e | e <;> rw [e] <;> decide
 have st : ∀ {hh : AH} {y : In} (j : Nat) (c : Int) (f : Int → In) (L : Slots), Own base 139 hh (at0 h2.length) (inV y) → Own base 139 hh (at0 h.length) (inV ⟨0, 0, 0, 0, 0, ⟨#[]⟩⟩) → CurR base cb hh → KB (· = cb) h hh → (∀ z, setAt (inV y) j [.int .i64 z] = inV (f z)) → j < 6 →
   ∃ hh' z, 0 ≤ z ∧ z < 4 ∧ ((run (Et base) 209 [(.string (shp op)), (.int .u8 c)] hh).bind fun r12 =>
    ((some r12.1).bind getB).bind fun b13 =>
    (if b13 = true then
    (run (Et base) 158 [(.pointer (at0 cb)), (.int .i64 (4 : Int))] r12.2).bind fun r14 =>
    ((some r14.1).bind (getI .i64)).bind fun n15 =>
    (Am.wr base r14.2 h2.length j [(.int .i64 n15)]).bind fun h16 =>
    some (Sum.inl (L, h16))
    else
    some (Sum.inl (L, r12.2))) : Option (Sum (Slots × AH) (Value × AH))) = some (Sum.inl (L, hh')) ∧ Own base 139 hh' (at0 h2.length) (inV (if hasL (shp op) c = true then f z else y)) ∧ Own base 139 hh' (at0 h.length) (inV ⟨0, 0, 0, 0, 0, ⟨#[]⟩⟩) ∧ CurR base cb hh' ∧ KB (· = cb) h hh' := by
  intro hh y j c f L oy or_ xx kk hf hj
  have el := l8Letter_run (base := base) (h := hh) (s := shp op) (c := c) hus
  cases hb : hasL (shp op) c with
  | false =>
   rw [hb] at el
   exact ⟨hh, 0, by omega, by omega, bs el (bB rfl (ifF (by decide) rfl)), by rw [if_neg (by decide)]; exact oy, or_, xx, kk⟩
  | true =>
   rw [hb] at el
   obtain ⟨z, h3, e3, z0, z1, _, x3, k3, l3⟩ := l1Below_run (n := 4) xx (by omega)
   have z1 := z1 (by omega)
   obtain ⟨h4', e4', o4', k4', l4'⟩ := (oy.keep k3 fun b hb hk => by rw [blk_at0] at hb; omega).wr0 (i := j) (new := [.int .i64 z]) (by simp; omega) (by simp)
   rw [hf] at o4'
   exact ⟨h4', z, z0, z1, bs el (bB rfl (ifT rfl (bs e3 (bI rfl (bs e4' rfl))))), by rw [if_pos rfl]; exact o4', (or_.keep k3 fun b hb hk => by rw [blk_at0] at hb; omega).keep k4' fun b hb hk => by rw [blk_at0] at hb; omega, x3.keep k4' fun b hb => by omega, kCF (kC kk k3) k4' fun b hb => by omega⟩
 have k05 : KB (· = cb) h h5 := KB.trans (kNB k1 k2) k25 (fun _ _ h => h) (fun _ _ h => h.elim)
 have k06 : KB (· = cb) h h6 := KB.trans k05 k6 (fun _ _ h => h) (fun _ _ h => h.elim)
 have or6 := (((o1.keep k2 fun b hb hk => by rw [blk_at0] at hb; omega).keepN k25).keepN k6)
 obtain ⟨h11, za, a0, a1, ea, oa, ra, xa, ka⟩ := st (y := ⟨op, 0, 0, 0, 0, ⟨#[]⟩⟩) 1 65 (fun z => ⟨op, z, 0, 0, 0, ⟨#[]⟩⟩) [some (.pointer (at0 cb)), some (.int .i64 n), some (.pointer (at0 h.length)), some (.pointer (at0 h2.length)), some (.string (shp op))] (o5.keepN k6) or6 ((x2.keepN k25).keepN k6) k06 (fun z => rfl) (by decide)
 have oa' : Own base 139 h11 (at0 h2.length) (inV ⟨op, if hasL (shp op) 65 = true then za else 0, 0, 0, 0, ⟨#[]⟩⟩) := by
  cases hb : hasL (shp op) 65 <;> rw [hb] at oa <;> exact oa
 have rA := regB_of (s := shp op) (c := 65) a0 (by omega : za < 8)
 have rA2 : 0 ≤ (if hasL (shp op) 65 = true then za else 0) ∧ (if hasL (shp op) 65 = true then za else 0) < 4 := by split <;> omega
 generalize (if hasL (shp op) 65 = true then za else 0) = A at oa' rA rA2
 obtain ⟨h22, zb, b0, b1, eb, ob, rb, xb, kb⟩ := st (y := ⟨op, A, 0, 0, 0, ⟨#[]⟩⟩) 2 66 (fun z => ⟨op, A, z, 0, 0, ⟨#[]⟩⟩) [some (.pointer (at0 cb)), some (.int .i64 n), some (.pointer (at0 h.length)), some (.pointer (at0 h2.length)), some (.string (shp op))] oa' ra xa ka (fun z => rfl) (by decide)
 have ob' : Own base 139 h22 (at0 h2.length) (inV ⟨op, A, if hasL (shp op) 66 = true then zb else 0, 0, 0, ⟨#[]⟩⟩) := by
  cases hb : hasL (shp op) 66 <;> rw [hb] at ob <;> exact ob
 have rB := regB_of (s := shp op) (c := 66) b0 (by omega : zb < 8)
 have rB2 : 0 ≤ (if hasL (shp op) 66 = true then zb else 0) ∧ (if hasL (shp op) 66 = true then zb else 0) < 4 := by split <;> omega
 generalize (if hasL (shp op) 66 = true then zb else 0) = B at ob' rB rB2
 obtain ⟨h33, zc, c0, c1, ec, oc, rc, xc, kc⟩ := st (y := ⟨op, A, B, 0, 0, ⟨#[]⟩⟩) 3 67 (fun z => ⟨op, A, B, z, 0, ⟨#[]⟩⟩) [some (.pointer (at0 cb)), some (.int .i64 n), some (.pointer (at0 h.length)), some (.pointer (at0 h2.length))] ob' rb xb kb (fun z => rfl) (by decide)
 have oc' : Own base 139 h33 (at0 h2.length) (inV ⟨op, A, B, if hasL (shp op) 67 = true then zc else 0, 0, ⟨#[]⟩⟩) := by
  cases hb : hasL (shp op) 67 <;> rw [hb] at oc <;> exact oc
 have rC := regB_of (s := shp op) (c := 67) c0 (by omega : zc < 8)
 generalize (if hasL (shp op) 67 = true then zc else 0) = C at oc' rC
 have start : ∀ {q : Slots × AH} {r : Value × AH}, (((((Am.cell h33 h2.length (0 + 0)).bind (getI .i64)).bind fun n44 =>
   (if (n44 == (1 : Int)) = true then
   (some (h33 ++ [some ⟨[(.int .i64 (0 : Int)), (.int .i64 (1 : Int)), (.int .i64 (-1 : Int)), (.int .i64 (1000000 : Int))], 3⟩])).bind fun h45 =>
   (run (Et base) 93 [(.pointer (at0 cb)), (.slice (some ⟨(List.length h33), 0, none⟩) 4 4)] h45).bind fun r46 =>
   ((some r46.1).bind (getI .i64)).bind fun n47 =>
   (Am.wr base r46.2 h2.length (0 + 4) [(.int .i64 n47)]).bind fun h48 =>
   some (.inl ([some (.pointer (some ⟨h.length, 0, none⟩)), some (.pointer (some ⟨h2.length, 0, none⟩))], h48))
   else
   (if (n44 == (2 : Int)) = true then
   (some (h33 ++ [some ⟨[(.string (⟨#[111, 107]⟩ : ByteArray)), (.string (⟨#[97]⟩ : ByteArray)), (.string (⟨#[98, 97, 100]⟩ : ByteArray))], 9⟩])).bind fun h49 =>
   (run (Et base) 190 [(.pointer (at0 cb)), (.slice (some ⟨(List.length h33), 0, none⟩) 3 3)] h49).bind fun r50 =>
   ((some r50.1).bind getStr).bind fun s51 =>
   (Am.wr base r50.2 h2.length (0 + 5) [(.string s51)]).bind fun h52 =>
   some (.inl ([some (.pointer (some ⟨h.length, 0, none⟩)), some (.pointer (some ⟨h2.length, 0, none⟩))], h52))
   else
   ((if (n44 == (4 : Int)) = true then
   some (.inl ([some (.pointer (at0 cb)), some (.int .i64 n), some (.pointer (some ⟨h.length, 0, none⟩)), some (.pointer (some ⟨h2.length, 0, none⟩)), some (.int .i64 n44), some (.bool (n44 == (4 : Int)))], h33))
   else
   some (.inl ([some (.pointer (at0 cb)), some (.int .i64 n), some (.pointer (some ⟨h.length, 0, none⟩)), some (.pointer (some ⟨h2.length, 0, none⟩)), some (.int .i64 n44), some (.bool (n44 == (6 : Int)))], h33))) : Option (Sum (Slots × AH) (Sum (Slots × AH) (Value × AH)))).bind fun j53 => joinK j53 fun j53 =>
   ((sget j53.1 0).bind getP).bind fun p54 =>
   ((sget (j53.1.tail) 0).bind (getI .i64)).bind fun n55 =>
   ((sget (j53.1.tail.tail) 0).bind getA).bind fun d56 =>
   ((sget (j53.1.tail.tail.tail) 0).bind getA).bind fun d57 =>
   ((sget (j53.1.tail.tail.tail.tail) 0).bind (getI .i64)).bind fun n58 =>
   ((sget (j53.1.tail.tail.tail.tail.tail) 0).bind getB).bind fun b59 =>
   (if b59 = true then
   (run (Et base) 158 [(.pointer p54), (.int .i64 (4 : Int))] j53.2).bind fun r60 =>
   ((some r60.1).bind (getI .i64)).bind fun n61 =>
   (Am.wr base r60.2 d57.block (d57.off + 4) [(.int .i64 n61)]).bind fun h62 =>
   some (.inl ([some (.pointer (some d56)), some (.pointer (some d57))], h62))
   else
   (if (n58 == (11 : Int)) = true then
   (run (Et base) 158 [(.pointer p54), (.int .i64 (6 : Int))] j53.2).bind fun r63 =>
   ((some r63.1).bind (getI .i64)).bind fun n64 =>
   (Am.wr base r63.2 d57.block (d57.off + 2) [(.int .i64 (IntKind.wrap .i64 ((1 : Int) + n64)))]).bind fun h65 =>
   (run (Et base) 158 [(.pointer p54), (.int .i64 n55)] h65).bind fun r66 =>
   ((some r66.1).bind (getI .i64)).bind fun n67 =>
   (Am.wr base r66.2 d57.block (d57.off + 4) [(.int .i64 n67)]).bind fun h68 =>
   some (.inl ([some (.pointer (some d56)), some (.pointer (some d57))], h68))
   else
   ((if (n58 == (10 : Int)) = true then
   some (.inl ([some (.pointer p54), some (.int .i64 n55), some (.pointer (some d56)), some (.pointer (some d57)), some (.bool (n58 == (10 : Int)))], j53.2))
   else
   (if (n58 == (12 : Int)) = true then
   some (.inl ([some (.pointer p54), some (.int .i64 n55), some (.pointer (some d56)), some (.pointer (some d57)), some (.bool (n58 == (12 : Int)))], j53.2))
   else
   some (.inl ([some (.pointer p54), some (.int .i64 n55), some (.pointer (some d56)), some (.pointer (some d57)), some (.bool (n58 == (16 : Int)))], j53.2)))) : Option (Sum (Slots × AH) (Sum (Slots × AH) (Value × AH)))).bind fun j69 => joinK j69 fun j69 =>
   ((sget j69.1 0).bind getP).bind fun p70 =>
   ((sget (j69.1.tail) 0).bind (getI .i64)).bind fun n71 =>
   ((sget (j69.1.tail.tail) 0).bind getA).bind fun d72 =>
   ((sget (j69.1.tail.tail.tail) 0).bind getA).bind fun d73 =>
   ((sget (j69.1.tail.tail.tail.tail) 0).bind getB).bind fun b74 =>
   (if b74 = true then
   (run (Et base) 158 [(.pointer p70), (.int .i64 n71)] j69.2).bind fun r75 =>
   ((some r75.1).bind (getI .i64)).bind fun n76 =>
   (Am.wr base r75.2 d73.block (d73.off + 4) [(.int .i64 n76)]).bind fun h77 =>
   some (.inl ([some (.pointer (some d72)), some (.pointer (some d73))], h77))
   else
   some (.inl ([some (.pointer (some d72)), some (.pointer (some d73))], j69.2)))))))) : Option (Sum (Slots × AH) (Value × AH))) = some (Sum.inl q)) → ((((sget q.1 0).bind getA).bind fun d78 =>
   ((sget (q.1.tail) 0).bind getA).bind fun d79 =>
   ((Am.cell q.2 d79.block d79.off).bind (getI .i64)).bind fun n80 =>
   ((Am.cell q.2 d79.block (d79.off + 1)).bind (getI .i64)).bind fun n81 =>
   ((Am.cell q.2 d79.block ((d79.off + 1) + 1)).bind (getI .i64)).bind fun n82 =>
   ((Am.cell q.2 d79.block (((d79.off + 1) + 1) + 1)).bind (getI .i64)).bind fun n83 =>
   ((Am.cell q.2 d79.block ((((d79.off + 1) + 1) + 1) + 1)).bind (getI .i64)).bind fun n84 =>
   ((Am.cell q.2 d79.block (((((d79.off + 1) + 1) + 1) + 1) + 1)).bind getStr).bind fun s85 =>
   (Am.wr base q.2 d78.block d78.off [(.int .i64 n80), (.int .i64 n81), (.int .i64 n82), (.int .i64 n83), (.int .i64 n84), (.string s85)]).bind fun h86 =>
   ((Am.cell h86 d78.block d78.off).bind (getI .i64)).bind fun n87 =>
   ((Am.cell h86 d78.block (d78.off + 1)).bind (getI .i64)).bind fun n88 =>
   ((Am.cell h86 d78.block ((d78.off + 1) + 1)).bind (getI .i64)).bind fun n89 =>
   ((Am.cell h86 d78.block (((d78.off + 1) + 1) + 1)).bind (getI .i64)).bind fun n90 =>
   ((Am.cell h86 d78.block ((((d78.off + 1) + 1) + 1) + 1)).bind (getI .i64)).bind fun n91 =>
   ((Am.cell h86 d78.block (((((d78.off + 1) + 1) + 1) + 1) + 1)).bind getStr).bind fun s92 =>
   some (Value.agg #[(.int .i64 n87), (.int .i64 n88), (.int .i64 n89), (.int .i64 n90), (.int .i64 n91), (.string s92)], h86)) = some r) → run (Et base) 189 [.pointer (at0 cb), .int .i64 n] h = some r := by
  intro q r hq hr
  refine Am.r189 (lets fun y ey => ?_)
  rw [hh1] at ey
  subst ey
  refine bs e2 (bI rfl (lets fun y ey => ?_))
  rw [hh4] at ey
  subst ey
  rw [hw]
  refine bs e5 (bs e6 (bS rfl ?_))
  rw [gate_pos (same_keep k6 (o5.at0 (i := 0) rfl))]
  refine bI ((o5.keepN k6).at0 (i := 0) rfl) ?_
  rw [w64i (n := op - 1) (by omega) (by omega)]
  refine ifT ⟨by omega, by omega⟩ (bs rfl (bT gu ?_))
  refine bj _ ea (bs rfl (bI rfl (bs rfl (bs rfl (bT rfl ?_)))))
  refine bj _ eb (bs rfl (bI rfl (bs rfl (bs rfl (bT rfl ?_)))))
  refine bj _ ec (bs rfl (bI rfl (bs rfl (bs rfl ?_))))
  exact bj _ hq hr
 have fin : ∀ {hj : AH} {y : In} {S : Nat → Prop}, (((((Am.cell h33 h2.length (0 + 0)).bind (getI .i64)).bind fun n44 =>
   (if (n44 == (1 : Int)) = true then
   (some (h33 ++ [some ⟨[(.int .i64 (0 : Int)), (.int .i64 (1 : Int)), (.int .i64 (-1 : Int)), (.int .i64 (1000000 : Int))], 3⟩])).bind fun h45 =>
   (run (Et base) 93 [(.pointer (at0 cb)), (.slice (some ⟨(List.length h33), 0, none⟩) 4 4)] h45).bind fun r46 =>
   ((some r46.1).bind (getI .i64)).bind fun n47 =>
   (Am.wr base r46.2 h2.length (0 + 4) [(.int .i64 n47)]).bind fun h48 =>
   some (.inl ([some (.pointer (some ⟨h.length, 0, none⟩)), some (.pointer (some ⟨h2.length, 0, none⟩))], h48))
   else
   (if (n44 == (2 : Int)) = true then
   (some (h33 ++ [some ⟨[(.string (⟨#[111, 107]⟩ : ByteArray)), (.string (⟨#[97]⟩ : ByteArray)), (.string (⟨#[98, 97, 100]⟩ : ByteArray))], 9⟩])).bind fun h49 =>
   (run (Et base) 190 [(.pointer (at0 cb)), (.slice (some ⟨(List.length h33), 0, none⟩) 3 3)] h49).bind fun r50 =>
   ((some r50.1).bind getStr).bind fun s51 =>
   (Am.wr base r50.2 h2.length (0 + 5) [(.string s51)]).bind fun h52 =>
   some (.inl ([some (.pointer (some ⟨h.length, 0, none⟩)), some (.pointer (some ⟨h2.length, 0, none⟩))], h52))
   else
   ((if (n44 == (4 : Int)) = true then
   some (.inl ([some (.pointer (at0 cb)), some (.int .i64 n), some (.pointer (some ⟨h.length, 0, none⟩)), some (.pointer (some ⟨h2.length, 0, none⟩)), some (.int .i64 n44), some (.bool (n44 == (4 : Int)))], h33))
   else
   some (.inl ([some (.pointer (at0 cb)), some (.int .i64 n), some (.pointer (some ⟨h.length, 0, none⟩)), some (.pointer (some ⟨h2.length, 0, none⟩)), some (.int .i64 n44), some (.bool (n44 == (6 : Int)))], h33))) : Option (Sum (Slots × AH) (Sum (Slots × AH) (Value × AH)))).bind fun j53 => joinK j53 fun j53 =>
   ((sget j53.1 0).bind getP).bind fun p54 =>
   ((sget (j53.1.tail) 0).bind (getI .i64)).bind fun n55 =>
   ((sget (j53.1.tail.tail) 0).bind getA).bind fun d56 =>
   ((sget (j53.1.tail.tail.tail) 0).bind getA).bind fun d57 =>
   ((sget (j53.1.tail.tail.tail.tail) 0).bind (getI .i64)).bind fun n58 =>
   ((sget (j53.1.tail.tail.tail.tail.tail) 0).bind getB).bind fun b59 =>
   (if b59 = true then
   (run (Et base) 158 [(.pointer p54), (.int .i64 (4 : Int))] j53.2).bind fun r60 =>
   ((some r60.1).bind (getI .i64)).bind fun n61 =>
   (Am.wr base r60.2 d57.block (d57.off + 4) [(.int .i64 n61)]).bind fun h62 =>
   some (.inl ([some (.pointer (some d56)), some (.pointer (some d57))], h62))
   else
   (if (n58 == (11 : Int)) = true then
   (run (Et base) 158 [(.pointer p54), (.int .i64 (6 : Int))] j53.2).bind fun r63 =>
   ((some r63.1).bind (getI .i64)).bind fun n64 =>
   (Am.wr base r63.2 d57.block (d57.off + 2) [(.int .i64 (IntKind.wrap .i64 ((1 : Int) + n64)))]).bind fun h65 =>
   (run (Et base) 158 [(.pointer p54), (.int .i64 n55)] h65).bind fun r66 =>
   ((some r66.1).bind (getI .i64)).bind fun n67 =>
   (Am.wr base r66.2 d57.block (d57.off + 4) [(.int .i64 n67)]).bind fun h68 =>
   some (.inl ([some (.pointer (some d56)), some (.pointer (some d57))], h68))
   else
   ((if (n58 == (10 : Int)) = true then
   some (.inl ([some (.pointer p54), some (.int .i64 n55), some (.pointer (some d56)), some (.pointer (some d57)), some (.bool (n58 == (10 : Int)))], j53.2))
   else
   (if (n58 == (12 : Int)) = true then
   some (.inl ([some (.pointer p54), some (.int .i64 n55), some (.pointer (some d56)), some (.pointer (some d57)), some (.bool (n58 == (12 : Int)))], j53.2))
   else
   some (.inl ([some (.pointer p54), some (.int .i64 n55), some (.pointer (some d56)), some (.pointer (some d57)), some (.bool (n58 == (16 : Int)))], j53.2)))) : Option (Sum (Slots × AH) (Sum (Slots × AH) (Value × AH)))).bind fun j69 => joinK j69 fun j69 =>
   ((sget j69.1 0).bind getP).bind fun p70 =>
   ((sget (j69.1.tail) 0).bind (getI .i64)).bind fun n71 =>
   ((sget (j69.1.tail.tail) 0).bind getA).bind fun d72 =>
   ((sget (j69.1.tail.tail.tail) 0).bind getA).bind fun d73 =>
   ((sget (j69.1.tail.tail.tail.tail) 0).bind getB).bind fun b74 =>
   (if b74 = true then
   (run (Et base) 158 [(.pointer p70), (.int .i64 n71)] j69.2).bind fun r75 =>
   ((some r75.1).bind (getI .i64)).bind fun n76 =>
   (Am.wr base r75.2 d73.block (d73.off + 4) [(.int .i64 n76)]).bind fun h77 =>
   some (.inl ([some (.pointer (some d72)), some (.pointer (some d73))], h77))
   else
   some (.inl ([some (.pointer (some d72)), some (.pointer (some d73))], j69.2)))))))) : Option (Sum (Slots × AH) (Value × AH))) = some (Sum.inl ([some (.pointer (at0 h.length)), some (.pointer (at0 h2.length))], hj))) → Own base 139 hj (at0 h2.length) (inV y) → KB S h33 hj → (∀ b, S b → b = cb ∨ b = h2.length) → CurR base cb hj → specB y n = true → ∃ (y : In) (h' : AH), run (Et base) 189 [.pointer (at0 cb), .int .i64 n] h = some (.agg (inV y).toArray, h') ∧ specB y n = true ∧ CurR base cb h' ∧ KB (· = cb) h h' := by
  intro hj y S ej oj kj hS xj hy
  obtain ⟨h86, e86, o86, k86, l86⟩ := (rc.keep kj fun b hb hk => by rw [blk_at0] at hb; have := hS b hk; omega).wr0 (i := 0) (new := inV y) (by simp) (by simp)
  have hz86 : setAt (inV ⟨0, 0, 0, 0, 0, ⟨#[]⟩⟩) 0 (inV y) = inV y := rfl
  rw [hz86] at o86
  exact ⟨y, h86, start ej (bs rfl (bs rfl (qi oj (bs e86 (qi o86 rfl))))), hy, xj.keep k86 fun b hb => by omega, kCF (KB.trans kc kj (fun _ _ h => h) (fun b hb hk => by have := hS b hk; omega)) k86 fun b hb => by omega⟩
 have inN : inB n 1 200 = true := by simp only [inB, Bool.and_eq_true, decide_eq_true_eq]; omega
 have inO : inB op 1 20 = true := by simp only [inB, Bool.and_eq_true, decide_eq_true_eq]; omega
 have g0 := oc'.at0 (i := 0) rfl
 have w33 : ∀ b, blk (at0 h2.length) b → b ≠ cb := fun b hb => by rw [blk_at0] at hb; omega
 by_cases d1 : op = 1
 ·obtain ⟨o45, k45, q45⟩ := box_own (base := base) (t := 3) (h := h33) (cs := iv .i64 [0, 1, -1, 1000000]) (by have := oc'.lt (blk_at0.2 rfl); omega) rfl
  generalize hh45 : h33 ++ [some (⟨iv .i64 [0, 1, -1, 1000000], 3⟩ : Blk)] = h45 at o45 k45 q45
  obtain ⟨v, h46, e46, hv, x46, k46, l46⟩ := l1Int_run (xc.keepN k45) o45.sl (fun b hb => by rw [blk_at0] at hb; have := xc.lt; omega) (by simp) (by simp)
  obtain ⟨h48, e48, o48, k48, l48⟩ := ((oc'.keepN k45).keep k46 fun b hb hk => w33 b hb hk).wr0 (i := 4) (new := [.int .i64 v]) (by simp) (by simp)
  have hz48 : setAt (inV ⟨op, A, B, C, 0, ⟨#[]⟩⟩) 4 [.int .i64 v] = inV ⟨op, A, B, C, v, ⟨#[]⟩⟩ := rfl
  rw [hz48] at o48
  refine fin (bI g0 (ifT (by simpa using d1) (lets fun y ey => ?_))) o48 (KB.trans (T := fun b => b = cb ∨ b = h2.length) (kNB k45 k46) k48 (fun _ _ h => .inl h) (fun _ _ h => .inr h)) (fun b h => h) (x46.keep k48 fun b hb => by omega) ?_
  ·have ey2 : y = h45 := by rw [ey]; exact hh45
   subst ey2
   exact bs e46 (bI rfl (bs e48 rfl))
  ·unfold specB
   simp only [inN, inO, rA, rC, rB, Bool.true_and]
   have hvb : inB v (-1000000) 1000000 = true := by
    simp only [List.mem_cons, List.not_mem_nil, or_false] at hv
    rcases hv with rfl | rfl | rfl | rfl <;> decide
   subst d1
   unfold numB
   simp [hvb, emp]
 by_cases d2 : op = 2
 ·obtain ⟨o45, k45, q45⟩ := box_own (base := base) (t := 9) (h := h33) (cs := [⟨#[111, 107]⟩, ⟨#[97]⟩, ⟨#[98, 97, 100]⟩].map Value.string) (by have := oc'.lt (blk_at0.2 rfl); omega) rfl
  generalize hh45 : h33 ++ [some (⟨[⟨#[111, 107]⟩, ⟨#[97]⟩, ⟨#[98, 97, 100]⟩].map Value.string, 9⟩ : Blk)] = h45 at o45 k45 q45
  obtain ⟨v, h46, e46, hv, x46, k46, l46⟩ := l1Str_run (xc.keepN k45) o45.sl (fun b hb => by rw [blk_at0] at hb; have := xc.lt; omega) (by simp) (by simp)
  obtain ⟨h48, e48, o48, k48, l48⟩ := ((oc'.keepN k45).keep k46 fun b hb hk => w33 b hb hk).wr0 (i := 5) (new := [.string v]) (by simp) (by simp)
  have hz48 : setAt (inV ⟨op, A, B, C, 0, ⟨#[]⟩⟩) 5 [.string v] = inV ⟨op, A, B, C, 0, v⟩ := rfl
  rw [hz48] at o48
  refine fin (bI g0 (ifF (by simpa using d1) (ifT (by simpa using d2) (lets fun y ey => ?_)))) o48 (KB.trans (T := fun b => b = cb ∨ b = h2.length) (kNB k45 k46) k48 (fun _ _ h => .inl h) (fun _ _ h => .inr h)) (fun b h => h) (x46.keep k48 fun b hb => by omega) ?_
  ·have ey2 : y = h45 := by rw [ey]; exact hh45
   subst ey2
   exact bs e46 (bT rfl (bs e48 rfl))
  ·unfold specB
   simp only [inN, inO, rA, rC, rB, Bool.true_and]
   have hva := (strs3_ok hv).1
   subst d2
   unfold numB
   simp [hva]
 have pre : ∀ {X : Option (Sum (Slots × AH) (Value × AH))} {r : Sum (Slots × AH) (Value × AH)} {F : Int → Option (Sum (Slots × AH) (Value × AH))}, True := fun {_ _ _} => trivial
 have j53 : ((if (op == (4 : Int)) = true then
   some (Sum.inl ([some (.pointer (at0 cb)), some (.int .i64 n), some (.pointer (at0 h.length)), some (.pointer (at0 h2.length)), some (.int .i64 op), some (.bool (op == (4 : Int)))], h33))
   else
   some (.inl ([some (.pointer (at0 cb)), some (.int .i64 n), some (.pointer (at0 h.length)), some (.pointer (at0 h2.length)), some (.int .i64 op), some (.bool (op == (6 : Int)))], h33)) : Option (Sum (Slots × AH) (Sum (Slots × AH) (Value × AH))))) = some (.inl ([some (.pointer (at0 cb)), some (.int .i64 n), some (.pointer (at0 h.length)), some (.pointer (at0 h2.length)), some (.int .i64 op), some (.bool (op == (4 : Int) || op == (6 : Int)))], h33)) := by
  by_cases c : op = 4
  ·refine ifT (by simpa using c) ?_
   rw [beq_iff_eq.2 c]
   rfl
  ·refine ifF (by simpa using c) ?_
   rw [beq_eq_false_iff_ne.2 c]
   rfl
 have j69 : ((if (op == (10 : Int)) = true then
   some (Sum.inl ([some (.pointer (at0 cb)), some (.int .i64 n), some (.pointer (at0 h.length)), some (.pointer (at0 h2.length)), some (.bool (op == (10 : Int)))], h33))
   else
   (if (op == (12 : Int)) = true then
   some (.inl ([some (.pointer (at0 cb)), some (.int .i64 n), some (.pointer (at0 h.length)), some (.pointer (at0 h2.length)), some (.bool (op == (12 : Int)))], h33))
   else
   some (.inl ([some (.pointer (at0 cb)), some (.int .i64 n), some (.pointer (at0 h.length)), some (.pointer (at0 h2.length)), some (.bool (op == (16 : Int)))], h33))) : Option (Sum (Slots × AH) (Sum (Slots × AH) (Value × AH))))) = some (.inl ([some (.pointer (at0 cb)), some (.int .i64 n), some (.pointer (at0 h.length)), some (.pointer (at0 h2.length)), some (.bool (op == (10 : Int) || (op == (12 : Int) || op == (16 : Int))))], h33)) := by
  by_cases c : op = 10
  ·refine ifT (by simpa using c) ?_
   rw [beq_iff_eq.2 c]
   rfl
  ·refine ifF (by simpa using c) ?_
   rw [beq_eq_false_iff_ne.2 c]
   by_cases c2 : op = 12
   ·refine ifT (by simpa using c2) ?_
    rw [beq_iff_eq.2 c2]
    rfl
   ·refine ifF (by simpa using c2) ?_
    rw [beq_eq_false_iff_ne.2 c2]
    rfl
 by_cases d3 : (op == (4 : Int) || op == (6 : Int)) = true
 ·obtain ⟨v, h60, e60, v0, v1, _, x60, k60, l60⟩ := l1Below_run (n := 4) xc (by omega)
  have v1 := v1 (by omega)
  obtain ⟨h62, e62, o62, k62, l62⟩ := (oc'.keep k60 fun b hb hk => w33 b hb hk).wr0 (i := 4) (new := [.int .i64 v]) (by simp) (by simp)
  have hz62 : setAt (inV ⟨op, A, B, C, 0, ⟨#[]⟩⟩) 4 [.int .i64 v] = inV ⟨op, A, B, C, v, ⟨#[]⟩⟩ := rfl
  rw [hz62] at o62
  rw [d3] at j53
  refine fin (bI g0 (ifF (by simpa using d1) (ifF (by simpa using d2) (bj _ j53 (bs rfl (bI rfl (bs rfl (bs rfl (bI rfl (bB rfl (ifT rfl (bs e60 (bI rfl (bs e62 rfl))))))))))))))  o62 (KB.trans (T := fun b => b = cb ∨ b = h2.length) k60 k62 (fun _ _ h => .inl h) (fun _ _ h => .inr h)) (fun b h => h) (x60.keep k62 fun b hb => by omega) ?_
  unfold specB
  simp only [inN, inO, rA, rC, rB, Bool.true_and]
  have n8 : inB v 0 8 = true := by simp only [inB, Bool.and_eq_true, decide_eq_true_eq]; omega
  have n7 : inB v 0 7 = true := by simp only [inB, Bool.and_eq_true, decide_eq_true_eq]; omega
  have hwv : IntKind.wrap .i64 (B + v) ≤ 8 := by rw [w64i (by omega) (by omega)]; omega
  simp only [Bool.or_eq_true, beq_iff_eq] at d3
  rcases d3 with d3 | d3 <;> subst d3 <;> unfold numB <;> simp [n8, n7, hwv, emp]
 have d3' : (op == (4 : Int) || op == (6 : Int)) = false := by simpa using d3
 rw [d3'] at j53
 simp only [Bool.or_eq_false_iff, beq_eq_false_iff_ne] at d3'
 by_cases d4 : op = 11
 ·obtain ⟨v, h63, e63, v0, v1, _, x63, k63, l63⟩ := l1Below_run (n := 6) xc (by omega)
  have v1 := v1 (by omega)
  obtain ⟨h65, e65, o65, k65, l65⟩ := (oc'.keep k63 fun b hb hk => w33 b hb hk).wr0 (i := 2) (new := [.int .i64 (1 + v)]) (by simp) (by simp)
  have hz65 : setAt (inV ⟨op, A, B, C, 0, ⟨#[]⟩⟩) 2 [.int .i64 (1 + v)] = inV ⟨op, A, 1 + v, C, 0, ⟨#[]⟩⟩ := rfl
  rw [hz65] at o65
  obtain ⟨u, h66, e66, u0, u1, _, x66, k66, l66⟩ := l1Below_run (n := n) (x63.keep k65 fun b hb => by omega) (by omega)
  have u1 := u1 (by omega)
  obtain ⟨h68, e68, o68, k68, l68⟩ := (o65.keep k66 fun b hb hk => w33 b hb hk).wr0 (i := 4) (new := [.int .i64 u]) (by simp) (by simp)
  have hz68 : setAt (inV ⟨op, A, 1 + v, C, 0, ⟨#[]⟩⟩) 4 [.int .i64 u] = inV ⟨op, A, 1 + v, C, u, ⟨#[]⟩⟩ := rfl
  rw [hz68] at o68
  have kk : KB (fun b => b = cb ∨ b = h2.length) h33 h68 := KB.trans (KB.trans (T := fun b => b = cb ∨ b = h2.length) k63 k65 (fun _ _ h => .inl h) (fun _ _ h => .inr h)) (KB.trans (T := fun b => b = cb ∨ b = h2.length) k66 k68 (fun _ _ h => .inl h) (fun _ _ h => .inr h)) (fun _ _ h => h) (fun _ _ h => h)
  refine fin (bI g0 (ifF (by simpa using d1) (ifF (by simpa using d2) (bj _ j53 (bs rfl (bI rfl (bs rfl (bs rfl (bI rfl (bB rfl (ifF (by decide) (ifT (by simpa using d4) (bs e63 (bI rfl ?_))))))))))))))  o68 kk (fun b h => h) (x66.keep k68 fun b hb => by omega) ?_
  ·rw [w64i (by omega) (by omega)]
   exact bs e65 (bs e66 (bI rfl (bs e68 rfl)))
  ·unfold specB
   simp only [inN, inO, rA, rC, Bool.true_and]
   have n8 : inB (1 + v) 1 6 = true := by simp only [inB, Bool.and_eq_true, decide_eq_true_eq]; omega
   subst d4
   unfold numB
   simp [n8, emp, u0, u1]
 by_cases d5 : (op == (10 : Int) || (op == (12 : Int) || op == (16 : Int))) = true
 ·obtain ⟨u, h66, e66, u0, u1, _, x66, k66, l66⟩ := l1Below_run (n := n) xc (by omega)
  have u1 := u1 (by omega)
  obtain ⟨h68, e68, o68, k68, l68⟩ := (oc'.keep k66 fun b hb hk => w33 b hb hk).wr0 (i := 4) (new := [.int .i64 u]) (by simp) (by simp)
  have hz68 : setAt (inV ⟨op, A, B, C, 0, ⟨#[]⟩⟩) 4 [.int .i64 u] = inV ⟨op, A, B, C, u, ⟨#[]⟩⟩ := rfl
  rw [hz68] at o68
  rw [d5] at j69
  refine fin (bI g0 (ifF (by simpa using d1) (ifF (by simpa using d2) (bj _ j53 (bs rfl (bI rfl (bs rfl (bs rfl (bI rfl (bB rfl (ifF (by decide) (ifF (by simpa using d4) (bj _ j69 (bs rfl (bI rfl (bs rfl (bs rfl (bB rfl (ifT rfl (bs e66 (bI rfl (bs e68 rfl)))))))))))))))))))))) o68 (KB.trans (T := fun b => b = cb ∨ b = h2.length) k66 k68 (fun _ _ h => .inl h) (fun _ _ h => .inr h)) (fun b h => h) (x66.keep k68 fun b hb => by omega) ?_
  unfold specB
  simp only [inN, inO, rA, rC, rB, Bool.true_and]
  simp only [Bool.or_eq_true, beq_iff_eq] at d5
  rcases d5 with d5 | d5 | d5 <;> subst d5 <;> unfold numB <;> simp [emp, u0, u1]
 ·have d5' : (op == (10 : Int) || (op == (12 : Int) || op == (16 : Int))) = false := by simpa using d5
  rw [d5'] at j69
  refine fin (bI g0 (ifF (by simpa using d1) (ifF (by simpa using d2) (bj _ j53 (bs rfl (bI rfl (bs rfl (bs rfl (bI rfl (bB rfl (ifF (by decide) (ifF (by simpa using d4) (bj _ j69 (bs rfl (bI rfl (bs rfl (bs rfl (bB rfl (ifF (by decide) rfl))))))))))))))))))) oc' (KB.refl NoB h33) (fun b h => h.elim) xc ?_
  unfold specB
  simp only [inN, inO, rA, rC, rB, Bool.true_and]
  simp only [Bool.or_eq_false_iff, beq_eq_false_iff_ne] at d5'
  obtain ⟨d51, d52, d53⟩ := d5'
  obtain ⟨d31, d32⟩ := d3'
  unfold numB
  simp [d1, d2, d31, d32, d4, d51, d52, d53, emp]
end Go.Proofs.Ytjmkbglnjklbcaa.Am
set_option linter.unusedSimpArgs false
set_option linter.unusedVariables false
namespace Go.Proofs.Ytjmkbglnjklbcaa.Am
open Go Go.RowKit
theorem allIns_of {n : Int} : ∀ {l : List In}, (∀ x ∈ l, specB x n = true) → allIns n l = true
 | [], _ => rfl
 | x :: r, h => by
  rw [allIns, h x (List.mem_cons_self ..), allIns_of fun y hy => h y (List.mem_cons_of_mem _ hy)]
  rfl
theorem code_loop {base cb lo : Nat} (hcb : cb < lo) (hlo : base ≤ lo) {n : Int} (hn0 : 1 ≤ n) (hn : n ≤ 12) : ∀ (d i : Nat) (h : AH) (ao : Option Addr) (acc : List In), (i : Int) + 1 + (d : Int) = n → CurR base cb h → lo ≤ h.length → Own base 139 h ao (insR acc) → (∀ b, blk ao b → lo ≤ b) → acc.length = i → (∀ x ∈ acc, specB x n = true) →
  ∃ h' ao' acc', loopL (B154_0 base) [some (.pointer (at0 cb)), some (.int .i64 n), some (.slice ao acc.length acc.length), some (.int .i64 (i : Int))] h = some (2, [some (.pointer (at0 cb)), some (.int .i64 n), some (.slice ao' (List.length acc') (List.length acc'))], h') ∧ CurR base cb h' ∧ Own base 139 h' ao' (insR acc') ∧ (∀ b, blk ao' b → lo ≤ b) ∧ ((acc'.length : Nat) : Int) + 1 = n ∧ (∀ x ∈ acc', specB x n = true) ∧ KB (fun b => b = cb ∨ lo ≤ b) h h' := by
 intro d
 induction d with
 | zero =>
  intro i h ao acc hi x hlh ow hao ha hs
  refine ⟨h, ao, acc, loop_off (by decide) ?_, x, ow, hao, by omega, hs, KB.refl _ _⟩
  rw [B154_0_eq]
  rw [w64i (n := (i : Int) + 1) (by omega) (by omega)]
  exact ifF (by simp; omega) rfl
 | succ d ih =>
  intro i h ao acc hi x hlh ow hao ha hs
  obtain ⟨y, h1, e1, hy, x1, k1⟩ := l8Draw_run (n := n) x hn0 (by omega)
  have n1 := k1.1
  have ow1 := ow.keep k1 fun b hb hk => by have := hao b hb; omega
  obtain ⟨a6, h6, e6, o6, k6, b6, n6⟩ := Am.app1 (bytes := 56) ow1 (n := acc.length) (sz := 6) (cs := inV y) (insR_len acc) rfl (by decide) rfl (by omega) (by omega) (by omega)
  have eR : insR acc ++ inV y = insR (acc ++ [y]) := by rw [insR_app]; rfl
  rw [eR] at o6
  have k06 : KB (fun b => b = cb ∨ lo ≤ b) h h6 := KB.trans k1 k6 (fun _ _ h => .inl h) (fun b _ hb => .inr (hao b hb))
  obtain ⟨h7, a7, acc', y1, y2, y3, y4, y5, y6, y7⟩ := ih (i + 1) h6 a6 (acc ++ [y]) (by omega) (x1.keep k6 fun b hb => by have := hao b hb; omega) (by omega) o6 (fun b hb => by have := b6 b hb; omega) (by simp; omega) (fun z hz => by
   rcases List.mem_append.1 hz with h | h
   ·exact hs z h
   ·rw [List.mem_singleton] at h; subst h; exact hy)
  refine ⟨h7, a7, acc', loop_on ?_ y1, y2, y3, y4, y5, y6, KB.trans k06 y7 (fun _ _ h => h) (fun _ _ h => h)⟩
  rw [B154_0_eq]
  rw [w64i (n := (i : Int) + 1) (by omega) (by omega)]
  refine ifT (decide_eq_true (by omega)) (bs e1 (bs (v := inV y) rfl (bI rfl (bI rfl (bI rfl (bI rfl (bI rfl (bT rfl (lets fun z ez => ?_)))))))))
  subst ez
  refine bs e6 (bS rfl ?_)
  simp
theorem l8Code_run {base cb : Nat} {h : AH} (x : CurR base cb h) : ∃ (l : List In) (ao : Option Addr) (h' : AH), run (Et base) 154 [.pointer (at0 cb)] h = some (.slice ao l.length l.length, h') ∧ codeOk l = true ∧ Own base 139 h' ao (insR l) ∧ (∀ b, blk ao b → h.length ≤ b) ∧ (∀ y ∈ l, y.s.size ≤ 1048576) ∧ CurR base cb h' ∧ KB (· = cb) h h' := by
 have hlt := x.lt
 obtain ⟨b1, h1, e1, x1, k1, l1⟩ := l1Once_run (n := 2) x (by omega)
 cases b1 with
 | true =>
  obtain ⟨o3, k3, q3⟩ := box_own (base := base) (t := 9) (h := h1) (cs := cdL.map Value.string) (by omega) rfl
  generalize hh3 : h1 ++ [some (⟨cdL.map Value.string, 9⟩ : Blk)] = h3 at o3 k3 q3
  have e3 : run (Et base) 188 [] h1 = some (.slice (at0 h1.length) 6 6, h3) := Am.r188 (lets fun y ey => by
   have : y = h3 := ey.trans hh3
   rw [this])
  obtain ⟨z, h5, e5, z0, z1, _, x5, k5, l5⟩ := l1Below_run (n := 6) (x1.keepN k3) (by omega)
  have z1 := z1 (by omega)
  obtain ⟨i, rfl⟩ : ∃ i : Nat, z = (i : Int) := ⟨z.toNat, by omega⟩
  have hi : i < cdL.length := by show i < 6; omega
  have g := (o3.keep k5 fun b hb hk => by rw [blk_at0] at hb; omega).at0 (i := i) (v := .string cdL[i]) (by simp [hi])
  have hp : (parseL (sb cdL[i])).2 = true := by
   apply parse2_ok
   have : sb cdL[i] ∈ czL := by rw [← cd_cz]; exact List.mem_map_of_mem (List.getElem_mem hi)
   exact List.all_eq_true.1 cz_ok _ this
  obtain ⟨ao, h9, e9, o9, f9, s9, k9⟩ := specParse_run (base := base) (h := h5) (cd_size _ (List.getElem_mem hi)) (by omega)
  refine ⟨(parseL (sb cdL[i])).1, ao, h9, Am.r154 (bs e1 (bB rfl (ifT rfl (bs e3 (bS rfl (bs e5 (bI rfl (ifT ⟨z0, z1⟩ (bs rfl ?_))))))))), parse_ok hp, o9, fun b hb => by have := f9 b hb; omega, s9, x5.keepN k9, KB.trans (kC k1 (kNB k3 k5)) k9 (fun _ _ h => h) (fun _ _ h => h.elim)⟩
  rw [Int.toNat_natCast, Nat.mul_one, Nat.zero_add]
  exact bT g (bs e9 (bs rfl (bS rfl (bB rfl rfl))))
 | false =>
  obtain ⟨z, h2, e2, z0, z1, _, x2, k2, l2⟩ := l1Below_run (n := 10) x1 (by omega)
  have z1 := z1 (by omega)
  obtain ⟨o3, k3, q3⟩ := box_own (base := base) (t := 139) (h := h2) (cs := []) (by omega) rfl
  generalize hh3 : h2 ++ [some (⟨[], 139⟩ : Blk)] = h3 at o3 k3 q3
  obtain ⟨h7, a7, acc, e7, x7, o7, f7, hl7, hs7, k7⟩ := code_loop (base := base) (cb := cb) (lo := h2.length) (n := 3 + z) (by omega) (by omega) (by omega) (by omega) (2 + z).toNat 0 h3 (at0 h2.length) [] (by omega) (x2.keepN k3) (by omega) o3 (fun b hb => by rw [blk_at0] at hb; omega) rfl (fun y hy => nomatch hy)
  rw [show ((0 : Nat) : Int) = 0 from rfl] at e7
  have n7 := k7.1
  obtain ⟨u, h8, e8, u0, u1, _, x8, k8, l8⟩ := l1Below_run (n := 3 + z) x7 (by omega)
  have u1 := u1 (by omega)
  obtain ⟨a6, h6, e6, o6, k6, b6, n6⟩ := Am.app1 (bytes := 56) (o7.keep k8 fun b hb hk => by have := f7 b hb; omega) (n := acc.length) (sz := 6) (cs := inV ⟨12, 0, 0, 0, u, ⟨#[]⟩⟩) (insR_len acc) rfl (by decide) rfl (by omega) (by omega) (by omega)
  have eR : insR acc ++ inV ⟨12, 0, 0, 0, u, ⟨#[]⟩⟩ = insR (acc ++ [⟨12, 0, 0, 0, u, ⟨#[]⟩⟩]) := by rw [insR_app]; rfl
  rw [eR] at o6
  have hjump : specB ⟨12, 0, 0, 0, u, ⟨#[]⟩⟩ (3 + z) = true := by
   have inN : inB (3 + z) 1 200 = true := by simp only [inB, Bool.and_eq_true, decide_eq_true_eq]; omega
   have q1 : regB (shp 12) 65 0 = true := by decide
   have q2 : regB (shp 12) 67 0 = true := by decide
   have q3 : regB (shp 12) 66 0 = true := by decide
   have q4 : inB 12 1 20 = true := by decide
   unfold specB numB
   simp [inN, q1, q2, q3, q4, emp, u0, u1]
  have hall : ∀ y ∈ acc ++ [⟨12, 0, 0, 0, u, ⟨#[]⟩⟩], specB y (3 + z) = true := fun y hy => by
   rcases List.mem_append.1 hy with h | h
   ·exact hs7 y h
   ·rw [List.mem_singleton] at h; subst h; exact hjump
  have hlen : (((acc ++ [(⟨12, 0, 0, 0, u, ⟨#[]⟩⟩ : In)]).length : Nat) : Int) = 3 + z := by simp; omega
  refine ⟨acc ++ [⟨12, 0, 0, 0, u, ⟨#[]⟩⟩], a6, h6, Am.r154 (bs e1 (bB rfl (ifF (by decide) (bs e2 (bI rfl (lets fun y ey => ?_)))))), ?_, o6, fun b hb => by have := b6 b hb; omega, fun y hy => by have := specB_size (hall y hy); omega, x8.keep k6 fun b hb => by have := f7 b hb; omega, ?_⟩
  ·rw [hh3] at ey
   subst ey
   rw [w64i (n := 3 + z) (by omega) (by omega)]
   refine bs e7 (ifT rfl (bs rfl (bI rfl (bS rfl (bs e8 (bI rfl (lets fun y ey => ?_)))))))
   subst ey
   refine bs e6 (bS rfl ?_)
   simp
  ·have hlast : lastOp (acc ++ [⟨12, 0, 0, 0, u, ⟨#[]⟩⟩]) = 12 := by
    unfold lastOp
    simp [List.getD]
   unfold codeOk
   rw [hlen, hlast, allIns_of hall]
   have : inB (3 + z) 1 200 = true := by simp only [inB, Bool.and_eq_true, decide_eq_true_eq]; omega
   rw [this]
   rfl
  ·exact kCF (kC (KB.trans (kC k1 k2) (KB.trans (T := fun b => b = cb ∨ h2.length ≤ b) k3 k7 (fun _ _ h => h.elim) (fun _ _ h => h)) (fun _ _ h => h) (fun b hb h => by omega)) k8) k6 fun b hb => by have := f7 b hb; omega
end Go.Proofs.Ytjmkbglnjklbcaa.Am
set_option linter.unusedSimpArgs false
set_option linter.unusedVariables false
namespace Go.Proofs.Ytjmkbglnjklbcaa.Am
open Go Go.RowKit
def InP (vs : List Value) : Prop := ∀ i v, vs[i]? = some v → if i % 6 = 5 then ∃ s, v = .string s ∧ s.size ≤ 1048576 else ∃ n, v = .int .i64 n
theorem inP_to : ∀ (n : Nat) (vs : List Value), vs.length = n * 6 → InP vs → ∃ l, vs = insR l ∧ l.length = n ∧ ∀ y ∈ l, y.s.size ≤ 1048576
 | 0, vs, hl, _ => ⟨[], List.eq_nil_of_length_eq_zero (by omega), rfl, fun y hy => nomatch hy⟩
 | n + 1, vs, hl, h => by
  rcases vs with _ | ⟨v0, _ | ⟨v1, _ | ⟨v2, _ | ⟨v3, _ | ⟨v4, _ | ⟨v5, r⟩⟩⟩⟩⟩⟩
  ·simp only [List.length_nil, List.length_cons] at hl; omega
  ·simp only [List.length_nil, List.length_cons] at hl; omega
  ·simp only [List.length_nil, List.length_cons] at hl; omega
  ·simp only [List.length_nil, List.length_cons] at hl; omega
  ·simp only [List.length_nil, List.length_cons] at hl; omega
  ·simp only [List.length_nil, List.length_cons] at hl; omega
  ·-- six cells and more
   obtain ⟨l, e, hln, hb⟩ := inP_to n r (by simp only [List.length_cons] at hl; omega) (fun i v hv => by
    have := h (i + 6) v (by simpa using hv)
    rwa [show (i + 6) % 6 = i % 6 from by omega] at this)
   obtain ⟨a0, e0⟩ := h 0 v0 rfl
   obtain ⟨a1, e1⟩ := h 1 v1 rfl
   obtain ⟨a2, e2⟩ := h 2 v2 rfl
   obtain ⟨a3, e3⟩ := h 3 v3 rfl
   obtain ⟨a4, e4⟩ := h 4 v4 rfl
   obtain ⟨s5, e5, hs⟩ := h 5 v5 rfl
   subst e0; subst e1; subst e2; subst e3; subst e4; subst e5; subst e
   refine ⟨⟨a0, a1, a2, a3, a4, s5⟩ :: l, rfl, by simp [hln], fun y hy => ?_⟩
   rcases List.mem_cons.1 hy with rfl | hy
   ·exact hs
   ·exact hb y hy
theorem inP_of : ∀ (l : List In), (∀ y ∈ l, y.s.size ≤ 1048576) → InP (insR l)
 | [], _ => fun i v hv => by simp [insR] at hv
 | x :: r, h => by
  intro i v hv
  rw [insR] at hv
  match i, hv with
  | 0, hv => exact ⟨_, (Option.some.inj hv).symm⟩
  | 1, hv => exact ⟨_, (Option.some.inj hv).symm⟩
  | 2, hv => exact ⟨_, (Option.some.inj hv).symm⟩
  | 3, hv => exact ⟨_, (Option.some.inj hv).symm⟩
  | 4, hv => exact ⟨_, (Option.some.inj hv).symm⟩
  | 5, hv => exact ⟨_, (Option.some.inj hv).symm, h x (.head _)⟩
  | i + 6, hv =>
   rw [show (i + 6) % 6 = i % 6 from by omega]
   exact inP_of r (fun y hy => h y (.tail _ hy)) i v (by simpa using hv)
theorem inP_set {vs : List Value} {i : Nat} {v : Value} (h : InP vs) (hi : i < vs.length) (hv : if i % 6 = 5 then ∃ s, v = .string s ∧ s.size ≤ 1048576 else ∃ n, v = .int .i64 n) : InP (setAt vs i [v]) := by
 intro j u hu
 have e : setAt vs i [v] = vs.set i v := by
  unfold setAt
  rw [List.set_eq_take_append_cons_drop, if_pos hi]
  simp
 rw [e] at hu
 by_cases hj : i = j
 ·subst hj
  rw [List.getElem?_set_self hi] at hu
  injection hu with hu
  subst hu
  exact hv
 ·rw [List.getElem?_set_ne hj] at hu
  exact h j u hu
theorem l8Any_run {base cb : Nat} {h : AH} (x : CurR base cb h) : ∃ (l : List In) (ao : Option Addr) (h' : AH), run (Et base) 156 [.pointer (at0 cb)] h = some (.slice ao l.length l.length, h') ∧ Sl h' ao (insR l) ∧ l.length ≤ 200 ∧ (∀ y ∈ l, y.s.size ≤ 1048576) ∧ (∀ b, blk ao b → h.length ≤ b ∧ b < h'.length) ∧ CurR base cb h' ∧ KB (· = cb) h h' := by
 have hlt := x.lt
 have hb : base ≤ h.length := by omega
 suffices w : Wp (run (Et base) 156 [.pointer (at0 cb)] h) fun o => ∃ (l : List In) (ao : Option Addr), o.1 = .slice ao l.length l.length ∧ Sl o.2 ao (insR l) ∧ l.length ≤ 200 ∧ (∀ y ∈ l, y.s.size ≤ 1048576) ∧ (∀ b, blk ao b → h.length ≤ b ∧ b < o.2.length) ∧ CurR base cb o.2 ∧ KB (· = cb) h o.2 by
  obtain ⟨⟨o1, o2⟩, e, l, ao, y1, y2⟩ := w
  simp only at y1 y2
  subst y1
  exact ⟨l, ao, o2, e, y2⟩
 have d := Hs.startC x hb
 refine W.of (fun r hx => Am.r156 hx) ?_
 obtain ⟨l, ao, h1, e1, hok, o1, hbl, hz, x1, k1⟩ := l8Code_run x
 obtain ⟨hl200, hl1, _⟩ := codeOk_spec hok
 have d := d.drawC (j := 0) (i := 1) rfl rfl x1 k1 (blk ao) (fun y => Own base 139 y ao (insR l)) o1 (fun U y y' k hs z => z.keep k hs) (fun b hb => ⟨hbl b hb, (o1.lt hb).2⟩)
 refine W.bs e1 ?_
 ((try simp only [n1, n2, n3, n4, n5, n6] at d); (with_reducible repeat first | refine W.a1 d ?_ | refine W.a2 ?_ | refine W.a3 ?_ | refine W.bo ?_ | refine W.a5 d fun hw d lw kw => ?_ | refine W.a6 d ?_ | refine W.a7 ?_ | refine W.a8 ?_))
 obtain ⟨k, h2, e2, z0, z1, z2, d, k2⟩ := d.below (n := (l.length : Int)) (by omega)
 have z1 := z1 (by omega)
 refine W.bs e2 ?_
 ((try simp only [n1, n2, n3, n4, n5, n6] at d); (with_reducible repeat first | refine W.a1 d ?_ | refine W.a2 ?_ | refine W.a3 ?_ | refine W.bo ?_ | refine W.a5 d fun hw d lw kw => ?_ | refine W.a6 d ?_ | refine W.a7 ?_ | refine W.a8 ?_))
 have fin : ∀ {h' : AH} {vs : List Value}, Hs base (· = cb) h h' [] [rArg base h, rCur base cb h, ⟨blk ao, true, fun y => Own base 139 y ao vs⟩] → vs.length = l.length * 6 → InP vs → ∃ (l' : List In), l'.length = l.length ∧ Sl h' ao (insR l') ∧ l'.length ≤ 200 ∧ (∀ y ∈ l', y.s.size ≤ 1048576) ∧ (∀ b, blk ao b → h.length ≤ b ∧ b < h'.length) ∧ CurR base cb h' ∧ KB (· = cb) h h' := by
  intro h' vs d hv hp
  obtain ⟨l', e, hl', hs'⟩ := inP_to l.length vs hv hp
  subst e
  refine ⟨l', hl', Own.sl (d.rs (i := 2) rfl), by omega, hs', fun b hb => ⟨hbl b hb, d.rlt (i := 2) rfl b hb⟩, d.cur0, d.kb⟩
 have wrt : ∀ {h1 : AH} {vs : List Value} {j : Nat} {v : Value} {D : Ds}, Hs base (· = cb) h h1 D [rArg base h, rCur base cb h, ⟨blk ao, true, fun y => Own base 139 y ao vs⟩] → vs.length = l.length * 6 → j < vs.length → ∃ ad h', ao = some ad ∧ Am.wr base h1 ad.block (ad.off + j) [v] = some h' ∧ Hs base (· = cb) h h' D [rArg base h, rCur base cb h, ⟨blk ao, true, fun y => Own base 139 y ao (setAt vs j [v])⟩] := by
  intro h1 vs j v D d hv hj
  obtain ⟨ad, h', ea, ew, ow, kw, _⟩ := Own.wrA (d.rs (i := 2) rfl : Own base 139 h1 ao vs) (i := j) (new := [v]) (by simp; omega) (by simp)
  exact ⟨ad, h', ea, ew, d.upd (r := ⟨blk ao, true, fun y => Own base 139 y ao vs⟩) (Upd.at (i := 2) rfl) rfl rfl kw (fun b hb => .inl hb) ow (fun U y y' k hs z => z.keep k hs) (fun b hb => .inl hb)⟩
 have hvl : (insR l).length = l.length * 6 := insR_len l
 refine W.joinP (fun q => ∃ (l' : List In) (ao' : Option Addr), q.1 = [some (.slice ao' l'.length l'.length)] ∧ Sl q.2 ao' (insR l') ∧ l'.length ≤ 200 ∧ (∀ y ∈ l', y.s.size ≤ 1048576) ∧ (∀ b, blk ao' b → h.length ≤ b ∧ b < q.2.length) ∧ CurR base cb q.2 ∧ KB (· = cb) h q.2) ?_ fun q hq => ?_
 ·obtain ⟨c, h3, e3, _, _, _, d, _⟩ := d.below (n := 12) (by omega)
  refine W.bs e3 ?_
  ((try simp only [n1, n2, n3, n4, n5, n6] at d); (with_reducible repeat first | refine W.a1 d ?_ | refine W.a2 ?_ | refine W.a3 ?_ | refine W.bo ?_ | refine W.a5 d fun hw d lw kw => ?_ | refine W.a6 d ?_ | refine W.a7 ?_ | refine W.a8 ?_))
  refine W.ite (fun c0 => ?_) (fun c0 => ?_)
  ·obtain ⟨u, h4, e4, _, _, _, d, _⟩ := d.below (n := 23) (by omega)
   refine W.bs e4 ?_
   ((try simp only [n1, n2, n3, n4, n5, n6] at d); (with_reducible repeat first | refine W.a1 d ?_ | refine W.a2 ?_ | refine W.a3 ?_ | refine W.bo ?_ | refine W.a5 d fun hw d lw kw => ?_ | refine W.a6 d ?_ | refine W.a7 ?_ | refine W.a8 ?_))
   obtain ⟨ad, h5, ea, ew, d⟩ := wrt (v := .int .i64 u) (j := k.toNat * 6 + 0) d hvl (by omega)
   refine W.bs (v := ad) (by rw [ea]) ?_
   rw [show ad.off + k.toNat * 6 + 0 = ad.off + (k.toNat * 6 + 0) from by omega]
   refine W.bs ew ?_
   obtain ⟨l', hl', q⟩ := fin d (by simp [setAt]; omega) (inP_set (inP_of l hz) (by omega) (by rw [if_neg (by omega)]; exact ⟨u, rfl⟩))
   exact W.inl ⟨l', ao, by rw [hl'], q⟩
  refine W.ite (fun c1 => ?_) (fun c1 => ?_)
  ·((try simp only [n1, n2, n3, n4, n5, n6] at d); (with_reducible repeat first | refine W.a1 d ?_ | refine W.a2 ?_ | refine W.a3 ?_ | refine W.bo ?_ | refine W.a5 d fun hw d lw kw => ?_ | refine W.a6 d ?_ | refine W.a7 ?_ | refine W.a8 ?_); (refine W.nD d fun h4 d _ kh4 => ?_); (with_reducible repeat first | refine W.a1 d ?_ | refine W.a2 ?_ | refine W.a3 ?_ | refine W.bo ?_ | refine W.a5 d fun hw d lw kw => ?_ | refine W.a6 d ?_ | refine W.a7 ?_ | refine W.a8 ?_))
   obtain ⟨u, h5, e5, _, d, _⟩ := d.pick (b := h3.length) (zs := [-1, 7, 8]) (.head _) (by simp) (by simp)
   refine W.bs e5 ?_
   ((try simp only [n1, n2, n3, n4, n5, n6] at d); (with_reducible repeat first | refine W.a1 d ?_ | refine W.a2 ?_ | refine W.a3 ?_ | refine W.bo ?_ | refine W.a5 d fun hw d lw kw => ?_ | refine W.a6 d ?_ | refine W.a7 ?_ | refine W.a8 ?_))
   obtain ⟨ad, h6, ea, ew, d⟩ := wrt (v := .int .i64 u) (j := k.toNat * 6 + 1) d.tl hvl (by omega)
   refine W.bs (v := ad) (by rw [ea]) ?_
   rw [show ad.off + k.toNat * 6 + 1 = ad.off + (k.toNat * 6 + 1) from by omega]
   refine W.bs ew ?_
   obtain ⟨l', hl', q⟩ := fin d (by simp [setAt]; omega) (inP_set (inP_of l hz) (by omega) (by rw [if_neg (by omega)]; exact ⟨u, rfl⟩))
   exact W.inl ⟨l', ao, by rw [hl'], q⟩
  refine W.ite (fun c2 => ?_) (fun c2 => ?_)
  ·((try simp only [n1, n2, n3, n4, n5, n6] at d); (with_reducible repeat first | refine W.a1 d ?_ | refine W.a2 ?_ | refine W.a3 ?_ | refine W.bo ?_ | refine W.a5 d fun hw d lw kw => ?_ | refine W.a6 d ?_ | refine W.a7 ?_ | refine W.a8 ?_); (refine W.nD d fun h4 d _ kh4 => ?_); (with_reducible repeat first | refine W.a1 d ?_ | refine W.a2 ?_ | refine W.a3 ?_ | refine W.bo ?_ | refine W.a5 d fun hw d lw kw => ?_ | refine W.a6 d ?_ | refine W.a7 ?_ | refine W.a8 ?_))
   obtain ⟨u, h5, e5, _, d, _⟩ := d.pick (b := h3.length) (zs := [-1, 200, 8]) (.head _) (by simp) (by simp)
   refine W.bs e5 ?_
   ((try simp only [n1, n2, n3, n4, n5, n6] at d); (with_reducible repeat first | refine W.a1 d ?_ | refine W.a2 ?_ | refine W.a3 ?_ | refine W.bo ?_ | refine W.a5 d fun hw d lw kw => ?_ | refine W.a6 d ?_ | refine W.a7 ?_ | refine W.a8 ?_))
   obtain ⟨ad, h6, ea, ew, d⟩ := wrt (v := .int .i64 u) (j := k.toNat * 6 + 4) d.tl hvl (by omega)
   refine W.bs (v := ad) (by rw [ea]) ?_
   rw [show ad.off + k.toNat * 6 + 4 = ad.off + (k.toNat * 6 + 4) from by omega]
   refine W.bs ew ?_
   obtain ⟨l', hl', q⟩ := fin d (by simp [setAt]; omega) (inP_set (inP_of l hz) (by omega) (by rw [if_neg (by omega)]; exact ⟨u, rfl⟩))
   exact W.inl ⟨l', ao, by rw [hl'], q⟩
  refine W.ite (fun c3 => ?_) (fun c3 => ?_)
  ·((try simp only [n1, n2, n3, n4, n5, n6] at d); (with_reducible repeat first | refine W.a1 d ?_ | refine W.a2 ?_ | refine W.a3 ?_ | refine W.bo ?_ | refine W.a5 d fun hw d lw kw => ?_ | refine W.a6 d ?_ | refine W.a7 ?_ | refine W.a8 ?_); (refine W.nD d fun h4 d _ kh4 => ?_); (with_reducible repeat first | refine W.a1 d ?_ | refine W.a2 ?_ | refine W.a3 ?_ | refine W.bo ?_ | refine W.a5 d fun hw d lw kw => ?_ | refine W.a6 d ?_ | refine W.a7 ?_ | refine W.a8 ?_))
   obtain ⟨u, h5, e5, hu, d, _⟩ := d.pickS (b := h3.length) (zs := [⟨#[]⟩, ⟨#[65]⟩, ⟨#[120]⟩]) (.head _) (by simp) (by simp)
   refine W.bs e5 ?_
   ((try simp only [n1, n2, n3, n4, n5, n6] at d); (with_reducible repeat first | refine W.a1 d ?_ | refine W.a2 ?_ | refine W.a3 ?_ | refine W.bo ?_ | refine W.a5 d fun hw d lw kw => ?_ | refine W.a6 d ?_ | refine W.a7 ?_ | refine W.a8 ?_))
   have hus : u.size ≤ 1048576 := by
    have hq : ∀ s ∈ ([⟨#[]⟩, ⟨#[65]⟩, ⟨#[120]⟩] : List ByteArray), s.size ≤ 1048576 := by
     simp only [List.forall_mem_cons]
     exact ⟨by decide, by decide, by decide, fun _ h => nomatch h⟩
    exact hq u hu
   obtain ⟨ad, h6, ea, ew, d⟩ := wrt (v := .string u) (j := k.toNat * 6 + 5) d.tl hvl (by omega)
   refine W.bs (v := ad) (by rw [ea]) ?_
   rw [show ad.off + k.toNat * 6 + 5 = ad.off + (k.toNat * 6 + 5) from by omega]
   refine W.bs ew ?_
   obtain ⟨l', hl', q⟩ := fin d (by simp [setAt]; omega) (inP_set (inP_of l hz) (by omega) (by rw [if_pos (by omega)]; exact ⟨u, rfl, hus⟩))
   exact W.inl ⟨l', ao, by rw [hl'], q⟩
  refine W.ite (fun c4 => ?_) (fun c4 => ?_)
  ·have o3 : Own base 139 h3 ao (insR l) := d.rs (i := 2) rfl
   refine W.ifT ⟨by omega, z0, by omega, (TyOk.own o3).ok _⟩ ?_
   refine W.inl ⟨l.take k.toNat, shiftA ao (Int.toNat 0 * 6), ?_, ?_, by rw [List.length_take]; omega, fun y hy => hz y (List.mem_of_mem_take hy), fun b hb' => ?_, d.cur0, d.kb⟩
   ·rw [List.length_take, Nat.min_eq_left (by omega)]
    rfl
   ·have := o3.sl.part (n := 0) (m := k.toNat * 6) (by omega)
    rw [List.drop_zero] at this
    have e : (insR l).take (k.toNat * 6) = insR (l.take k.toNat) := by
     have hk : k.toNat ≤ l.length := by omega
     conv => lhs; rw [← List.take_append_drop k.toNat l]
     rw [insR_app, List.take_append_of_le_length (by rw [insR_len, List.length_take]; omega), List.take_of_length_le (by rw [insR_len, List.length_take]; omega)]
    rw [e] at this
    exact this
   ·have : blk ao b := by
     obtain ⟨ad, e, e2⟩ := hb'
     unfold shiftA at e
     cases ao with
     | none => cases e
     | some a0 =>
      simp only [Option.map_some] at e
      injection e with e
      subst e
      exact ⟨a0, rfl, e2⟩
    exact ⟨hbl b this, d.rlt (i := 2) rfl b this⟩
  ·exact W.inl ⟨l, ao, rfl, Own.sl (d.rs (i := 2) rfl), hl200, hz, fun b hb' => ⟨hbl b hb', d.rlt (i := 2) rfl b hb'⟩, d.cur0, d.kb⟩
 obtain ⟨q1, h4⟩ := q
 obtain ⟨l', ao', e, q⟩ := hq
 simp only at e q
 subst e
 exact W.bs rfl (W.ret ⟨l', ao', rfl, q⟩)
end Go.Proofs.Ytjmkbglnjklbcaa.Am
set_option linter.unusedSimpArgs false
set_option linter.unusedVariables false
namespace Go.Proofs.Ytjmkbglnjklbcaa.Am
open Go Go.RowKit
namespace Hs
variable {base : Nat} {W : Fp} {h0 h : AH} {D : Ds} {R : List Rs}
end Hs
end Go.Proofs.Ytjmkbglnjklbcaa.Am
set_option linter.unusedSimpArgs false
set_option linter.unusedVariables false
namespace Go.Proofs.Ytjmkbglnjklbcaa.Am
open Go Go.RowKit
end Go.Proofs.Ytjmkbglnjklbcaa.Am
set_option linter.unusedSimpArgs false
set_option linter.unusedVariables false
namespace Go.Proofs.Ytjmkbglnjklbcaa.Am
open Go Go.RowKit
theorem RowO.blkS {α : Type} {base t w : Nat} {P : Fp → AH → α → List Value → Prop} {S : Fp} {h : AH} {l : List α} {a : Option Addr} (x : RowO base t w P S h l a) : ∀ b, blk a b → S b := by
 obtain ⟨vs, T, _, _, x3, _⟩ := x
 exact fun b hb => (x3 b hb).1
end Go.Proofs.Ytjmkbglnjklbcaa.Am
set_option linter.unusedSimpArgs false
set_option linter.unusedVariables false
namespace Go.Proofs.Ytjmkbglnjklbcaa.Am
open Go Go.RowKit
theorem AcG.setLinks {base F : Nat} {C U : Fp} {h h2 : AH} {A : Ac} {cs : List Value} {a' : Option Addr} {zs : List Int} (x : AcG base F C h A cs) (k : KB U h h2) (hU : ∀ b, C b → ¬ U b) (o : Own base 3 h2 a' (iv .i64 zs)) (hd : ∀ b, blk a' b → ¬ C b) : AcG base F (fun b => C b ∨ blk a' b) h2 ⟨A.pid, A.pc, A.regs, A.box, zs⟩ (setAt cs 4 [.slice a' zs.length zs.length]) := by
 obtain ⟨ra, rb, rc, S1, S2, S3, rfl, q1, q2, q3, qg, t1, t2, t3, d12, d13, d23⟩ := x
 exact ⟨ra, rb, a', S1, S2, blk a', rfl, q1.keep (TmG.kp _ _) k fun b hb => hU b (t1 b hb), q2.keep (TmG.kp _ _) k fun b hb => hU b (t2 b hb), o, fun _ h => h, fun b hb => .inl (t1 b hb), fun b hb => .inl (t2 b hb), fun b hb => .inr hb, d12, fun b h1 h2 => hd b h2 (t1 b h1), fun b h1 h2 => hd b h2 (t2 b h1)⟩
end Go.Proofs.Ytjmkbglnjklbcaa.Am
