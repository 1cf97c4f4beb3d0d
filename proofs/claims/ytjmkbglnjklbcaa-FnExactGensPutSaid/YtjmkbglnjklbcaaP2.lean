/- What the functions of this law compute, lemma by lemma, up to the law.
Conditions: none. -/
import Derived.Test.YtjmkbglnjklbcaaP1
import Derived.IntWalk
import Derived.Laws.BitsLemmas

set_option linter.unusedSimpArgs false
set_option linter.unusedVariables false
namespace Go.Proofs.Ytjmkbglnjklbcaa.Am
open Go Go.RowKit
theorem toStringS_loop {base : Nat} {a0 : Option Addr} {zs : List ByteArray} (hn : zs.length ≤ 140737488355328) {a : Option Addr} : ∀ (d i : Nat) (h : AH), i + d = zs.length → Sl h a0 (stV zs) → (∀ b, blk a0 b → ¬ blk a b) → ∀ rest : List ByteArray, rest.length = d → Own base 9 h a (stV (zs.take i ++ rest)) →
  ∃ h', loopL (B16_0 base) [some (.slice a0 zs.length zs.length), some (.slice a zs.length zs.length), some (.int .i64 (i : Int))] h = some (2, [some (.slice a zs.length zs.length)], h') ∧ Own base 9 h' a (stV zs) ∧ KB (blk a) h h' := by
 intro d
 induction d with
 | zero =>
  intro i h hi hs hb rest hr ho
  have e : zs.take i ++ rest = zs := by
   rw [List.eq_nil_of_length_eq_zero hr, List.append_nil, List.take_of_length_le (by omega)]
  rw [e] at ho
  refine ⟨h, ?_, ho, KB.refl _ _⟩
  rw [loopL_eq, B16_0_eq]
  have : ¬ ((i : Int) < (zs.length : Int)) := by omega
  simp [this]
 | succ d ih =>
  intro i h hi hs hb rest hr ho
  have hlt : i < zs.length := by omega
  obtain ⟨ad, h1, h2⟩ := str_at hs hlt
  match rest, hr with
  | z :: rest, hr =>
   obtain ⟨ad2, h', g1, g2, g3, g4, g5⟩ := ho.wr (i := i) (new := [.string zs[i]]) (by rw [stV_len]; simp; omega) (by simp)
   have e : setAt (stV (zs.take i ++ z :: rest)) i [.string zs[i]] = stV (zs.take (i + 1) ++ rest) := by
    have e1 : (stV (zs.take i)).length = i := by rw [stV_len]; simp; omega
    have ea : ∀ x y : List ByteArray, stV (x ++ y) = stV x ++ stV y := fun x y => List.map_append
    rw [ea]
    simp only [setAt, List.length_singleton]
    have e2 : (stV (zs.take i) ++ stV (z :: rest)).take i = stV (zs.take i) := by
     rw [List.take_append_of_le_length (by omega), List.take_of_length_le (by omega)]
    have e3 : (stV (zs.take i) ++ stV (z :: rest)).drop (i + 1) = stV rest := by
     rw [List.drop_append, e1]
     have : i + 1 - i = 1 := by omega
     rw [this, List.drop_of_length_le (by omega)]
     rfl
    rw [e2, e3, List.take_succ_eq_append_getElem hlt, ea, ea]
    rfl
   rw [e] at g3
   obtain ⟨h'', k1, k2, k3⟩ := ih (i + 1) h' (by omega) (hs.keep g4 hb) hb rest (by simpa using hr) g3
   refine ⟨h'', ?_, k2, KB.trans g4 k3 (fun _ _ h => h) (fun _ _ h => h)⟩
   rw [loopL_eq, B16_0_eq]
   have c1 : ((i : Int) < (zs.length : Int)) := by omega
   subst h1; subst g1
   rw [w64i (by omega) (by omega)]
   have hc : (((i : Int) + 1 : Int)) = ((i + 1 : Nat) : Int) := by omega
   have h2' : (Am.cell h ad.block (ad.off + i)).bind getStr = some zs[i] := by rw [h2]; rfl
   simp only [c1, decide_true, if_true, Option.bind_some, Int.toNat_natCast, Nat.mul_one, h2', g2, hc]
   rw [if_pos ⟨by omega, trivial⟩, if_pos ⟨by omega, trivial⟩]
   simp only [Option.bind_some, if_true]
   exact k1
theorem toStringS_run {base : Nat} {h : AH} {a0 : Option Addr} {zs : List ByteArray} (hs : Sl h a0 (stV zs)) (hn : zs.length ≤ 1048576) (hb : base ≤ h.length) :
  ∃ a h', run (Et base) 16 [.slice a0 zs.length zs.length] h = some (.slice a zs.length zs.length, h') ∧ Own base 9 h' a (stV zs) ∧ KB NoB h h' ∧ ∀ b, blk a b → h.length ≤ b ∧ b < h'.length := by
 have hrep : ∀ n, rep [Value.string ⟨#[]⟩] n = stV (List.replicate n ⟨#[]⟩) := by
  intro n
  induction n with
  | zero => rfl
  | succ n ih => simp only [rep, ih]; rfl
 have hown := Own.new base 9 h (rep [Value.string ⟨#[]⟩] zs.length) hb
 rw [hrep] at hown
 have hk : KB NoB h (h ++ [some ⟨rep [Value.string ⟨#[]⟩] zs.length, 9⟩]) := KB.push _ _ _
 have hsep : ∀ b, blk a0 b → zs = [] ∨ ¬ blk (some (⟨h.length, 0, none⟩ : Addr)) b := by
  intro b hb'
  rcases hs with e | ⟨ad, k, h1, h2, _⟩
  ·left
   have := congrArg List.length e
   rw [stV_len] at this
   exact List.eq_nil_of_length_eq_zero (by simpa using this)
  ·right
   rw [blk_new]
   obtain ⟨ad', e1, e2⟩ := hb'
   rw [h1] at e1
   injection e1 with e1
   subst e1; subst e2
   have := hget_lt h2
   omega
 have main : ∃ h', loopL (B16_0 base) [some (.slice a0 zs.length zs.length), some (.slice (some ⟨h.length, 0, none⟩) zs.length zs.length), some (.int .i64 ((0 : Nat) : Int))] (h ++ [some ⟨rep [Value.string ⟨#[]⟩] zs.length, 9⟩]) = some (2, [some (.slice (some ⟨h.length, 0, none⟩) zs.length zs.length)], h') ∧ Own base 9 h' (some ⟨h.length, 0, none⟩) (stV zs) ∧ KB (blk (some (⟨h.length, 0, none⟩ : Addr))) (h ++ [some ⟨rep [Value.string ⟨#[]⟩] zs.length, 9⟩]) h' := by
  by_cases hz : zs = []
  ·subst hz
   refine ⟨_, ?_, by simpa [hrep] using hown, KB.refl _ _⟩
   rw [loopL_eq, B16_0_eq]
   simp
  ·exact toStringS_loop (by omega) zs.length 0 _ (by omega) (hs.keep hk fun _ _ h => h.elim) (fun b hb' => (hsep b hb').resolve_left hz) (List.replicate zs.length ⟨#[]⟩) (by simp) (by simpa [hrep] using hown)
 obtain ⟨h', m1, m2, m3⟩ := main
 have hlen : h.length + 1 ≤ h'.length := by have := m3.1; simp at this; omega
 refine ⟨some ⟨h.length, 0, none⟩, h', Am.r16 ?_, m2, KB.trans hk m3 (fun _ _ h => h) (fun i hi h => by rw [blk_new] at h; omega), fun b hb' => by rw [blk_new] at hb'; omega⟩
 rw [if_pos ⟨rfl, by omega, by omega, by omega⟩]
 simp only [Int.toNat_natCast, Option.bind_some]
 rw [show ((0 : Nat) : Int) = 0 from rfl] at m1
 rw [m1]
 simp [sget, getS]
theorem eqStringS_run {base : Nat} {h : AH} {a b : Option Addr} {l : List ByteArray} (hl : l.length ≤ 9223372036854775807) (hx : Sl h a (stV l)) (hy : Sl h b (stV l)) : run (Et base) 20 [.slice a l.length l.length, .slice b l.length l.length] h = some (.bool true, h) := by
 have loop : ∀ (r i : Nat), i + r = l.length → loopL (B20_0 base) [some (.slice a l.length l.length), some (.slice b l.length l.length), some (.int .i64 (i : Int))] h = some (2, [], h) := by
  intro r
  induction r with
  | zero =>
   intro i hi
   refine loop_off (by decide) ?_
   rw [B20_0_eq]
   exact ifF (by simp; omega) rfl
  | succ r ih =>
   intro i hi
   have hlt : i < l.length := by omega
   obtain ⟨ad, rfl, g⟩ := str_at hx hlt
   obtain ⟨ad2, rfl, g2⟩ := str_at hy hlt
   refine loop_on ?_ (ih (i + 1) (by omega))
   rw [B20_0_eq]
   refine ifT (decide_eq_true (by omega)) (ifT (by omega) (bs rfl (bT (by rw [show Int.toNat (i : Int) * 1 = i from by simp]; exact g) (ifT (by omega) (bs rfl (bT (by rw [show Int.toNat (i : Int) * 1 = i from by simp]; exact g2) (ifF (by simp) ?_)))))))
   rw [w64i (by omega) (by omega)]
   rfl
 have e := loop l.length 0 (by omega)
 rw [show ((0 : Nat) : Int) = 0 from rfl] at e
 exact Am.r20 (ifF (by simp) (bs e (ifF (show ¬ (2 : Nat) = 1 by decide) (ifT rfl rfl))))
theorem szStringS_run {base : Nat} {h : AH} {a : Option Addr} {l : List ByteArray} {left : Int} (hl : l.length ≤ 9223372036854775807) (hz : ∀ s ∈ l, s.size ≤ maxLen) (hs : Sl h a (stV l)) (h0 : 0 ≤ left) (h1 : left ≤ 1048576) : ∃ z, run (Et base) 12 [.slice a l.length l.length, .int .i64 left] h = some (.int .i64 z, h) ∧ z ≤ left ∧ -1 ≤ z ∧ (¬ z < 0 → z + (l.length : Int) ≤ left) := by
 by_cases hn : left - (l.length : Int) < 0
 ·refine ⟨-1, Am.r12 ?_, by omega, by omega, fun h => absurd (by decide) h⟩
  rw [w64i (by omega) (by omega)]
  exact ifT (decide_eq_true hn) rfl
 ·have loop : ∀ (r i : Nat) (z : Int), i + r = l.length → 0 ≤ z → z ≤ left - (l.length : Int) → ∃ z', z' ≤ left - (l.length : Int) ∧ -1 ≤ z' ∧ (loopL (B12_0 base) [some (.slice a l.length l.length), some (.int .i64 z), some (.int .i64 (i : Int))] h = some (1, [some (.int .i64 (-1))], h) ∧ z' = -1 ∨ loopL (B12_0 base) [some (.slice a l.length l.length), some (.int .i64 z), some (.int .i64 (i : Int))] h = some (2, [some (.int .i64 z')], h)) := by
   intro r
   induction r with
   | zero =>
    intro i z hi z0 z1
    refine ⟨z, z1, by omega, .inr (loop_off (by decide) ?_)⟩
    rw [B12_0_eq]
    exact ifF (by simp; omega) rfl
   | succ r ih =>
    intro i z hi z0 z1
    have hlt : i < l.length := by omega
    have hsz := hz l[i] (List.getElem_mem _)
    unfold maxLen at hsz
    obtain ⟨ad, rfl, g⟩ := str_at hs hlt
    by_cases hc : z - (l[i].size : Int) < 0
    ·refine ⟨-1, by omega, by omega, .inl ⟨loop_off (by decide) ?_, rfl⟩⟩
     rw [B12_0_eq]
     refine ifT (decide_eq_true (by omega)) (ifT (by omega) (bs rfl (bT (by rw [show Int.toNat (i : Int) * 1 = i from by simp]; exact g) ?_)))
     rw [w64i (by omega) (by omega)]
     exact ifT (decide_eq_true hc) rfl
    ·obtain ⟨z', q1, q2, q3⟩ := ih (i + 1) (z - (l[i].size : Int)) (by omega) (by omega) (by omega)
     have step : B12_0 base [some (.slice (some ad) l.length l.length), some (.int .i64 z), some (.int .i64 (i : Int))] h = some (0, [some (.slice (some ad) l.length l.length), some (.int .i64 (z - (l[i].size : Int))), some (.int .i64 ((i + 1 : Nat) : Int))], h) := by
      rw [B12_0_eq]
      refine ifT (decide_eq_true (by omega)) (ifT (by omega) (bs rfl (bT (by rw [show Int.toNat (i : Int) * 1 = i from by simp]; exact g) ?_)))
      rw [w64i (n := z - (l[i].size : Int)) (by omega) (by omega)]
      refine ifF (by simpa using hc) ?_
      rw [w64i (n := (i : Int) + 1) (by omega) (by omega)]
      rfl
     refine ⟨z', q1, q2, ?_⟩
     rcases q3 with ⟨q3, q4⟩ | q3
     ·exact .inl ⟨loop_on step q3, q4⟩
     ·exact .inr (loop_on step q3)
  obtain ⟨z', q1, q2, q3⟩ := loop l.length 0 (left - (l.length : Int)) (by omega) (by omega) (by omega)
  rw [show ((0 : Nat) : Int) = 0 from rfl] at q3
  refine ⟨z', Am.r12 ?_, by omega, q2, fun _ => by omega⟩
  rw [w64i (by omega) (by omega)]
  refine ifF (by simpa using hn) ?_
  rcases q3 with ⟨q3, rfl⟩ | q3
  ·exact bs q3 (ifT rfl (bI rfl rfl))
  ·exact bs q3 (ifF (show ¬ (2 : Nat) = 1 by decide) (ifT rfl (bI rfl rfl)))
theorem szGens_run {base : Nat} {h : AH} {oa ya : Option Addr} {G : Gn} {left : Int} (h1 : G.old.length ≤ 9223372036854775807) (h2 : G.young.length ≤ 9223372036854775807) (hb : base ≤ h.length) (l0 : 0 ≤ left) (l1 : left ≤ 1048576) :
  ∃ z h', run (Et base) 27 [.agg (gensV oa ya G).toArray, .int .i64 left] h = some (.int .i64 z, h') ∧ KB NoB h h' ∧ z ≤ left ∧ -1 ≤ z ∧ (¬ z < 0 → z + (G.old.length : Int) + (G.young.length : Int) ≤ left) := by
 have d := Hs.start hb
 suffices W : Wp (run (Et base) 27 [.agg (gensV oa ya G).toArray, .int .i64 left] h) fun o => ∃ z, o.1 = .int .i64 z ∧ KB NoB h o.2 ∧ z ≤ left ∧ -1 ≤ z ∧ (¬ z < 0 → z + (G.old.length : Int) + (G.young.length : Int) ≤ left) by
  obtain ⟨⟨o1, o2⟩, e, z, y1, y2⟩ := W
  simp only at y1 y2
  subst y1
  exact ⟨z, o2, e, y2⟩
 refine W.of (fun r hx => Am.r27 hx) ?_
 ((try simp only [n1, n2, n3, n4, n5, n6] at d); (with_reducible repeat first | refine W.a1 d ?_ | refine W.a2 ?_ | refine W.a3 ?_ | refine W.bo ?_ | refine W.a5 d fun hw d lw kw => ?_ | refine W.a6 d ?_ | refine W.a7 ?_ | refine W.a8 ?_); (refine W.nD d fun p1 d _ kp1 => ?_); (with_reducible repeat first | refine W.a1 d ?_ | refine W.a2 ?_ | refine W.a3 ?_ | refine W.bo ?_ | refine W.a5 d fun hw d lw kw => ?_ | refine W.a6 d ?_ | refine W.a7 ?_ | refine W.a8 ?_))
 obtain ⟨z1, e1, a1, a2, a3⟩ := szIntS_run (base := base) (h := p1) (a := oa) (n := G.old.length) (left := left) h1 l0 l1
 refine W.bs e1 ?_
 ((try simp only [n1, n2, n3, n4, n5, n6] at d); (with_reducible repeat first | refine W.a1 d ?_ | refine W.a2 ?_ | refine W.a3 ?_ | refine W.bo ?_ | refine W.a5 d fun hw d lw kw => ?_ | refine W.a6 d ?_ | refine W.a7 ?_ | refine W.a8 ?_))
 refine W.ite (fun c => W.ret ⟨-1, rfl, d.kb, by omega, by omega, fun h => absurd (by decide) h⟩) (fun c => ?_)
 have c : ¬ z1 < 0 := by simpa using c
 ((try simp only [n1, n2, n3, n4, n5, n6] at d); (with_reducible repeat first | refine W.a1 d ?_ | refine W.a2 ?_ | refine W.a3 ?_ | refine W.bo ?_ | refine W.a5 d fun hw d lw kw => ?_ | refine W.a6 d ?_ | refine W.a7 ?_ | refine W.a8 ?_))
 obtain ⟨z2, e2, b1, b2, b3⟩ := szIntS_run (base := base) (h := p1) (a := ya) (n := G.young.length) (left := z1) h2 (by omega) (by omega)
 refine W.bs e2 ?_
 ((try simp only [n1, n2, n3, n4, n5, n6] at d); (with_reducible repeat first | refine W.a1 d ?_ | refine W.a2 ?_ | refine W.a3 ?_ | refine W.bo ?_ | refine W.a5 d fun hw d lw kw => ?_ | refine W.a6 d ?_ | refine W.a7 ?_ | refine W.a8 ?_))
 refine W.ite (fun c => W.ret ⟨-1, rfl, d.kb, by omega, by omega, fun h => absurd (by decide) h⟩) (fun c => ?_)
 have c : ¬ z2 < 0 := by simpa using c
 have := a3 (by omega)
 have := b3 c
 exact W.ret ⟨z2, rfl, d.kb, by omega, by omega, fun _ => by omega⟩
theorem toGens_run {base : Nat} {h : AH} {oa ya : Option Addr} {G : Gn} (h1 : G.old.length ≤ 1048576) (h2 : G.young.length ≤ 1048576) (x : GnS h oa ya G) (hb : base ≤ h.length) :
  ∃ a b h', run (Et base) 29 [.agg (gensV oa ya G).toArray] h = some (.agg (gensV a b G).toArray, h') ∧ Own base 3 h' a (iv .i64 G.old) ∧ Own base 3 h' b (iv .i64 G.young) ∧ KB NoB h h' ∧ (∀ i, blk a i ∨ blk b i → h.length ≤ i ∧ i < h'.length) ∧ (∀ i, blk a i → ¬ blk b i) := by
 have d := Hs.start hb
 suffices W : Wp (run (Et base) 29 [.agg (gensV oa ya G).toArray] h) fun o => ∃ a b, o.1 = .agg (gensV a b G).toArray ∧ Own base 3 o.2 a (iv .i64 G.old) ∧ Own base 3 o.2 b (iv .i64 G.young) ∧ KB NoB h o.2 ∧ (∀ i, blk a i ∨ blk b i → h.length ≤ i ∧ i < o.2.length) ∧ (∀ i, blk a i → ¬ blk b i) by
  obtain ⟨⟨o1, o2⟩, e, a, b, y1, y2⟩ := W
  simp only at y1 y2
  subst y1
  exact ⟨a, b, o2, e, y2⟩
 refine W.of (fun r hx => Am.r29 hx) ?_
 ((try simp only [n1, n2, n3, n4, n5, n6] at d); (with_reducible repeat first | refine W.a1 d ?_ | refine W.a2 ?_ | refine W.a3 ?_ | refine W.bo ?_ | refine W.a5 d fun hw d lw kw => ?_ | refine W.a6 d ?_ | refine W.a7 ?_ | refine W.a8 ?_); (refine W.nD d fun p1 d _ kp1 => ?_); (with_reducible repeat first | refine W.a1 d ?_ | refine W.a2 ?_ | refine W.a3 ?_ | refine W.bo ?_ | refine W.a5 d fun hw d lw kw => ?_ | refine W.a6 d ?_ | refine W.a7 ?_ | refine W.a8 ?_); (refine W.nD d fun p2 d _ kp2 => ?_); (with_reducible repeat first | refine W.a1 d ?_ | refine W.a2 ?_ | refine W.a3 ?_ | refine W.bo ?_ | refine W.a5 d fun hw d lw kw => ?_ | refine W.a6 d ?_ | refine W.a7 ?_ | refine W.a8 ?_); (refine W.nD d fun p3 d _ kp3 => ?_); (with_reducible repeat first | refine W.a1 d ?_ | refine W.a2 ?_ | refine W.a3 ?_ | refine W.bo ?_ | refine W.a5 d fun hw d lw kw => ?_ | refine W.a6 d ?_ | refine W.a7 ?_ | refine W.a8 ?_))
 obtain ⟨a, h4, e4, o4, k4, q4⟩ := toIntS_run (base := base) (x.1.keepN d.kb) h1 d.ge
 refine W.bs e4 ?_
 have n3 : h.length ≤ p3.length := d.kb.1
 have d := d.call k4 (blk a) (fun y => Own base 3 y a (iv .i64 G.old)) o4 (fun U y y' k hs x => x.keep k hs) (fun b hb => ⟨q4 b hb, (o4.lt hb).2⟩)
 ((try simp only [n1, n2, n3, n4, n5, n6] at d); (with_reducible repeat first | refine W.a1 d ?_ | refine W.a2 ?_ | refine W.a3 ?_ | refine W.bo ?_ | refine W.a5 d fun hw d lw kw => ?_ | refine W.a6 d ?_ | refine W.a7 ?_ | refine W.a8 ?_))
 have n4 : h4.length = List.length hw := by omega
 obtain ⟨b, h6, e6, o6, k6, q6⟩ := toIntS_run (base := base) (x.2.keepN d.kb) h2 d.ge
 refine W.bs e6 ?_
 have d := d.call k6 (blk b) (fun y => Own base 3 y b (iv .i64 G.young)) o6 (fun U y y' k hs x => x.keep k hs) (fun i hi => ⟨q6 i hi, (o6.lt hi).2⟩)
 have hal := d.rlt (i := 0) rfl
 have hbl := d.rlt (i := 1) rfl
 have hf := d.rfr (i := 0) rfl rfl
 have hf2 := d.rfr (i := 1) rfl rfl
 have hle := d.kb.1
 ((try simp only [n1, n2, n3, n4, n5, n6] at d); (with_reducible repeat first | refine W.a1 d ?_ | refine W.a2 ?_ | refine W.a3 ?_ | refine W.bo ?_ | refine W.a5 d fun hw d lw kw => ?_ | refine W.a6 d ?_ | refine W.a7 ?_ | refine W.a8 ?_))
 have hh : ∀ i, blk a i → i < List.length hw := fun i hi => d.rlt (i := 0) rfl i hi
 have hh2 : ∀ i, blk b i → i < List.length hw := fun i hi => d.rlt (i := 1) rfl i hi
 refine W.ret ⟨a, b, rfl, d.rs (i := 0) rfl, d.rs (i := 1) rfl, d.kb, fun i hi => ?_, fun i hi hi2 => ?_⟩
 ·rcases hi with hi | hi
  ·exact ⟨(hf i hi).resolve_left fun h => h, hh i hi⟩
  ·exact ⟨(hf2 i hi).resolve_left fun h => h, hh2 i hi⟩
 ·have dj := d.dj
  rw [List.pairwise_cons] at dj
  exact dj.1 _ (.head _) rfl i hi hi2
theorem eqGens_run {base : Nat} {h : AH} {oa ya oa2 ya2 : Option Addr} {G : Gn} (h1 : G.old.length ≤ 1048576) (h2 : G.young.length ≤ 1048576) (x : GnS h oa ya G) (y : GnS h oa2 ya2 G) (hb : base ≤ h.length) :
  ∃ h', run (Et base) 31 [.agg (gensV oa ya G).toArray, .agg (gensV oa2 ya2 G).toArray] h = some (.bool true, h') ∧ KB NoB h h' := by
 have d := Hs.start hb
 suffices W : Wp (run (Et base) 31 [.agg (gensV oa ya G).toArray, .agg (gensV oa2 ya2 G).toArray] h) fun o => o.1 = .bool true ∧ KB NoB h o.2 by
  obtain ⟨⟨o1, o2⟩, e, y1, y2⟩ := W
  simp only at y1 y2
  subst y1
  exact ⟨o2, e, y2⟩
 refine W.of (fun r hx => Am.r31 hx) ?_
 ((try simp only [n1, n2, n3, n4, n5, n6] at d); (with_reducible repeat first | refine W.a1 d ?_ | refine W.a2 ?_ | refine W.a3 ?_ | refine W.bo ?_ | refine W.a5 d fun hw d lw kw => ?_ | refine W.a6 d ?_ | refine W.a7 ?_ | refine W.a8 ?_); (refine W.nD d fun p1 d _ kp1 => ?_); (with_reducible repeat first | refine W.a1 d ?_ | refine W.a2 ?_ | refine W.a3 ?_ | refine W.bo ?_ | refine W.a5 d fun hw d lw kw => ?_ | refine W.a6 d ?_ | refine W.a7 ?_ | refine W.a8 ?_); (refine W.nD d fun p2 d _ kp2 => ?_); (with_reducible repeat first | refine W.a1 d ?_ | refine W.a2 ?_ | refine W.a3 ?_ | refine W.bo ?_ | refine W.a5 d fun hw d lw kw => ?_ | refine W.a6 d ?_ | refine W.a7 ?_ | refine W.a8 ?_))
 refine W.bs (eqIntS_run (base := base) (x.1.keepN d.kb) (y.1.keepN d.kb) (by omega)) ?_
 ((try simp only [n1, n2, n3, n4, n5, n6] at d); (with_reducible repeat first | refine W.a1 d ?_ | refine W.a2 ?_ | refine W.a3 ?_ | refine W.bo ?_ | refine W.a5 d fun hw d lw kw => ?_ | refine W.a6 d ?_ | refine W.a7 ?_ | refine W.a8 ?_))
 refine W.ifF (by simp) ?_
 ((try simp only [n1, n2, n3, n4, n5, n6] at d); (with_reducible repeat first | refine W.a1 d ?_ | refine W.a2 ?_ | refine W.a3 ?_ | refine W.bo ?_ | refine W.a5 d fun hw d lw kw => ?_ | refine W.a6 d ?_ | refine W.a7 ?_ | refine W.a8 ?_))
 refine W.bs (eqIntS_run (base := base) (x.2.keepN d.kb) (y.2.keepN d.kb) (by omega)) ?_
 ((try simp only [n1, n2, n3, n4, n5, n6] at d); (with_reducible repeat first | refine W.a1 d ?_ | refine W.a2 ?_ | refine W.a3 ?_ | refine W.bo ?_ | refine W.a5 d fun hw d lw kw => ?_ | refine W.a6 d ?_ | refine W.a7 ?_ | refine W.a8 ?_))
 refine W.ifF (by simp) ?_
 ((try simp only [n1, n2, n3, n4, n5, n6] at d); (with_reducible repeat first | refine W.a1 d ?_ | refine W.a2 ?_ | refine W.a3 ?_ | refine W.bo ?_ | refine W.a5 d fun hw d lw kw => ?_ | refine W.a6 d ?_ | refine W.a7 ?_ | refine W.a8 ?_))
 refine W.ifF (by simp) ?_
 exact W.ret ⟨rfl, d.kb⟩
end Go.Proofs.Ytjmkbglnjklbcaa.Am
set_option linter.unusedSimpArgs false
set_option linter.unusedVariables false
namespace Go.Proofs.Ytjmkbglnjklbcaa.Am
open Go Go.RowKit
def AtO (base : Nat) (a : Option Addr) (ats : List ByteArray) (y : AH) : Prop := TyOk base y a 9 ∧ Sl y a (stV ats)
def InO (base : Nat) (a : Option Addr) (l : List Int) (y : AH) : Prop := TyOk base y a 3 ∧ Sl y a (iv .i64 l)
theorem AtO.keep {base : Nat} {a : Option Addr} {ats : List ByteArray} (U : Fp) (h h' : AH) (k : KB U h h') (hS : ∀ b, blk a b → ¬ U b) (x : AtO base a ats h) : AtO base a ats h' := ⟨x.1.keep k hS, x.2.keep k hS⟩
theorem InO.keep {base : Nat} {a : Option Addr} {l : List Int} (U : Fp) (h h' : AH) (k : KB U h h') (hS : ∀ b, blk a b → ¬ U b) (x : InO base a l h) : InO base a l h' := ⟨x.1.keep k hS, x.2.keep k hS⟩
theorem rd_ints {h : AH} {f : Nat} {v : Value} (x : Rd Try.prog h f 22 [v]) : ∃ a l, v = .slice a (List.length l) (List.length l) ∧ l.length ≤ maxLen ∧ Sl h a (iv .i64 l) ∧ ∀ n ∈ l, wOk n := by
 obtain ⟨a, zs, e, h1, h2, h3⟩ := x.ints Try.underlying22 Try.underlying3 (by kernel_rfl)
 injection e with e _
 refine ⟨a, zs, e, h1, h2, fun n hn => ?_⟩
 have := h3 n hn
 simp only [Lit.wf, Bool.and_eq_true, decide_eq_true_eq] at this
 exact ⟨this.1, this.2⟩
theorem strs_of : ∀ (vs : List Value), (∀ i, i < vs.length → ∃ s, vs[i]? = some (.string s) ∧ s.size ≤ maxLen) → ∃ l, vs = stV l ∧ ∀ s ∈ l, s.size ≤ maxLen
 | [], _ => ⟨[], rfl, fun s hs => by cases hs⟩
 | v :: vs, h => by
  obtain ⟨s, e, hs⟩ := h 0 (by simp)
  obtain ⟨l, e2, h2⟩ := strs_of vs fun i hi => by
   have := h (i + 1) (by simp; omega)
   simpa using this
  simp only [List.getElem?_cons_zero] at e
  injection e with e
  refine ⟨s :: l, by rw [e, e2]; rfl, fun t ht => ?_⟩
  rcases List.mem_cons.1 ht with rfl | ht
  ·exact hs
  ·exact h2 t ht
theorem rd_strs {h : AH} {f : Nat} {v : Value} (x : Rd Try.prog h f 25 [v]) : ∃ a l, v = .slice a (List.length l) (List.length l) ∧ l.length ≤ maxLen ∧ Sl h a (stV l) ∧ ∀ s ∈ l, s.size ≤ maxLen := by
 have c9 : Try.prog.cellsOf 9 = 1 := by kernel_rfl
 obtain ⟨g, a, n, vs, e, h1, h2, h3, h4⟩ := x.slice Try.underlying25
 rw [c9] at h3 h4
 simp only [Nat.mul_one] at h3 h4
 obtain ⟨l, e2, hl⟩ := strs_of vs fun i hi => by
  obtain ⟨s, e, hs⟩ := (h4 i (by omega)).str Try.underlying9
  refine ⟨s, ?_, hs⟩
  have := congrArg (·[0]?) e
  simp only [List.getElem?_take_of_lt (show 0 < 1 by decide), List.getElem?_drop, Nat.add_zero, List.getElem?_cons_zero] at this
  exact this
 injection e with e _
 have hn : l.length = n := by rw [← h3, e2, stV_len]
 subst e2
 exact ⟨a, l, by rw [hn]; exact e, by omega, h2, hl⟩
set_option maxRecDepth 100000 in
theorem rd_gens {h : AH} {f : Nat} {cs : List Value} (x : Rd Try.prog h f 48 cs) : ∃ a b G, cs = gensV a b G ∧ G.old.length ≤ maxLen ∧ G.young.length ≤ maxLen ∧ GnS h a b G ∧ (∀ n ∈ G.old, wOk n) ∧ ∀ n ∈ G.young, wOk n := by
 have cT : Try.prog.cellsOf 48 = 3 := by kernel_rfl
 have c3 : Try.prog.cellsOf 3 = 1 := by kernel_rfl
 have cL : Try.prog.cellsOf 22 = 1 := by kernel_rfl
 match f, x with
 | 0, x => exact x.elim
 | f + 1, x =>
  simp only [Rd, Try.underlying48] at x
  obtain ⟨hl, hf⟩ := x
  rw [cT] at hl
  match cs, hl with
  | [v0, v1, v2], _ =>
   simp only [List.forall_mem_cons, c3, cL, List.drop_zero, List.drop_succ_cons, List.take_succ_cons, List.take_zero] at hf
   obtain ⟨f0, f1, f2, _⟩ := hf
   obtain ⟨a, l, rfl, h1, h2, h3⟩ := rd_ints f0
   obtain ⟨b, y, rfl, h4, h5, h6⟩ := rd_ints f1
   obtain ⟨n2, e2, _⟩ := f2.int Try.underlying3
   injection e2 with e2 _
   subst e2
   exact ⟨a, b, ⟨l, y, n2⟩, rfl, h1, h4, ⟨h2, h5⟩, h3, h6⟩
end Go.Proofs.Ytjmkbglnjklbcaa.Am
set_option linter.unusedSimpArgs false
set_option linter.unusedVariables false
namespace Go.Proofs.Ytjmkbglnjklbcaa.Am
open Go Go.RowKit
structure Cx where
 pid : Int
 pc : Int
 regs : List Int
 box : List Int
 links : List Int
 home : Int
def CxS (h : AH) (r b l : Option Addr) (C : Cx) : Prop := Sl h r (iv .i64 C.regs) ∧ Sl h b (iv .i64 C.box) ∧ Sl h l (iv .i64 C.links)
def CxO (base : Nat) (r b l : Option Addr) (C : Cx) (h : AH) : Prop := InO base r C.regs h ∧ InO base b C.box h ∧ InO base l C.links h
theorem CxS.keepN {h h' : AH} {r b l : Option Addr} {C : Cx} (x : CxS h r b l C) (k : KB NoB h h') : CxS h' r b l C := ⟨x.1.keepN k, x.2.1.keepN k, x.2.2.keepN k⟩
theorem CxO.cl {base : Nat} {h : AH} {r b l : Option Addr} {C : Cx} (x : CxO base r b l C h) : CxS h r b l C := ⟨x.1.2, x.2.1.2, x.2.2.2⟩
theorem CxO.keep {base : Nat} {r b l : Option Addr} {C : Cx} (U : Fp) (h h' : AH) (k : KB U h h') (hS : ∀ i, blk r i ∨ blk b i ∨ blk l i → ¬ U i) (x : CxO base r b l C h) : CxO base r b l C h' :=
 ⟨x.1.keep U _ _ k fun i hi => hS i (.inl hi), x.2.1.keep U _ _ k fun i hi => hS i (.inr (.inl hi)), x.2.2.keep U _ _ k fun i hi => hS i (.inr (.inr hi))⟩
def Cx.Le (C : Cx) : Prop := C.regs.length ≤ 1048576 ∧ C.box.length ≤ 1048576 ∧ C.links.length ≤ 1048576
theorem Hs.appN {base t sz bytes i n m : Nat} {V S : Fp} {h0 h : AH} {D : Ds} {R : List Rs} {a : Option Addr} {olds new : List Value} {src : Option (List Value)} (d : Hs base V h0 h D R) (ei : R[i]? = some ⟨S, true, fun x => Own base t x a olds⟩) (hS : ∀ b, blk a b → S b) (hn : olds.length = n * sz) (hsz : 0 < sz) (hs : src = some new) (h1 : (n + m) * bytes ≤ 140737488355328) (h2 : n + m ≤ 9223372036854775807) (hm : new.length = m * sz) :
  ∃ a' h', Am.app base h t sz bytes a n src m = some (.slice a' (n + m) (n + m), h') ∧ Hs base V h0 h' D (R.set i ⟨blk a', true, fun y => Own base t y a' (olds ++ new)⟩) ∧ KB (blk a) h h' := by
 obtain ⟨a', h', e, o, k, q⟩ := Own.app (x := d.rs ei) (bytes := bytes) (m := m) hn hsz hs d.ge h1 h2 hm
 refine ⟨a', h', e, d.upd (Upd.at ei) rfl rfl k (fun b hb => .inl (hS b hb)) o (fun U y y' ky hs x => x.keep ky hs) (fun b hb => ?_), k⟩
 rcases q with ⟨_, e, _⟩ | q
 ·have hb : blk a' b := hb
  rw [e] at hb
  exact .inl (hS b hb)
 ·have e := q b hb
  have := (o.lt hb).2
  exact .inr ⟨by omega, this⟩
end Go.Proofs.Ytjmkbglnjklbcaa.Am
set_option linter.unusedSimpArgs false
set_option linter.unusedVariables false
namespace Go.Proofs.Ytjmkbglnjklbcaa.Am
open Go Go.RowKit
def addA (l : List ByteArray) (s : ByteArray) : List ByteArray × Int := if aix s l 0 ≥ 0 then (l, aix s l 0) else if (!atomOk s) = true then (l, -1) else if decide ((l.length : Int) ≥ 200) = true then (l, -1) else (l ++ [s], (l.length : Int))
theorem stV_leaf (l : List ByteArray) : (stV l).all leaf = true := by
 induction l with
 | nil => rfl
 | cons x r ih => simp only [stV, List.map_cons, List.all_cons] at ih ⊢; rw [ih]; rfl
abbrev rSt (base : Nat) (a : Option Addr) (l : List ByteArray) : Rs := ⟨blk a, true, fun y => Own base 9 y a (stV l)⟩
theorem Hs.copyS {base : Nat} {V : Fp} {h0 h : AH} {D : Ds} {R : List Rs} {v : Option Addr} {l : List ByteArray} (d : Hs base V h0 h D R) (hl : l.length ≤ 1048576) (hs : Sl h v (stV l)) : ∃ a' h', Am.app base h 9 1 16 none 0 (rawAt h v (l.length * 1)) l.length = some (.slice a' l.length l.length, h') ∧ Hs base V h0 h' D (R ++ [rSt base a' l]) ∧ KB NoB h h' := by
 have hr : rawAt h v (l.length * 1) = some (stV l) := by
  have := hs.raw (stV_leaf l)
  rw [stV_len] at this
  rw [Nat.mul_one]
  exact this
 obtain ⟨a1, h1, g1, g2, g3, g4⟩ := Own.app (base := base) (t := 9) (sz := 1) (bytes := 16) (h := h) (a := none) (olds := []) (.inl ⟨rfl, rfl⟩) (n := 0) (m := l.length) (by simp) (by omega) hr d.ge (by omega) (by omega) (by rw [stV_len]; omega)
 simp only [List.nil_append, Nat.zero_add] at g1 g2
 have k : KB NoB h h1 := g3.mono fun i hi ⟨ad, e, _⟩ => by cases e
 refine ⟨a1, h1, g1, d.call k (blk a1) (fun y => Own base 9 y a1 (stV l)) g2 (fun U y y' ky hs x => x.keep ky hs) (fun b hb' => ⟨?_, (g2.lt hb').2⟩), k⟩
 rcases g4 with ⟨_, rfl, _⟩ | g4
 ·obtain ⟨ad, e, _⟩ := hb'; cases e
 ·have := g4 b hb'; omega
theorem Hs.copyE {base b : Nat} {V : Fp} {h0 h : AH} {D : Ds} {R : List Rs} {v : Option Addr} {l : List ByteArray} (d : Hs base V h0 h ((b, 9, []) :: D) R) (hl : l.length ≤ 1048576) (hs : Sl h v (stV l)) (hi : R = []) : ∃ a' h', Am.app base h 9 1 16 (at0 b) 0 (rawAt h v (l.length * 1)) l.length = some (.slice a' l.length l.length, h') ∧ Hs base V h0 h' D [rSt base a' l] ∧ KB (· = b) h h' := by
 subst hi
 have hr : rawAt h v (l.length * 1) = some (stV l) := by
  have := hs.raw (stV_leaf l)
  rw [stV_len] at this
  rw [Nat.mul_one]
  exact this
 have d := d.unbox (Del.at (i := 0) rfl)
 simp only [n5, n6] at d
 obtain ⟨a2, h2, e2, d, k2⟩ := d.appN (i := 0) (n := 0) (m := l.length) (sz := 1) (bytes := 16) (a := at0 b) rfl (fun b hb => (blk_at0.1 hb)) (by simp) (by decide) hr (by omega) (by omega) (by rw [stV_len]; omega)
 simp only [List.nil_append, Nat.zero_add] at e2 d
 exact ⟨a2, h2, e2, d, k2.mono fun i _ hi => blk_at0.1 hi⟩
def AddR (base : Nat) (F : Nat) : Prop := ∀ (h : AH) (l : List ByteArray) (v : Option Addr) (s : ByteArray), l.length ≤ 1048576 → s.size ≤ 9223372036854775807 → Sl h v (stV l) → (∀ b, blk v b → b < h.length) → base ≤ h.length →
 ∃ a' h', run (Et base) F [.slice v l.length l.length, .string s] h = some (.tuple #[.slice a' (addA l s).1.length (addA l s).1.length, .int .i64 (addA l s).2], h') ∧ Own base 9 h' a' (stV (addA l s).1) ∧ KB NoB h h' ∧ ∀ b, blk a' b → h.length ≤ b
theorem stV_app (l : List ByteArray) (s : ByteArray) : stV l ++ [.string s] = stV (l ++ [s]) := by simp [stV]
theorem implAdd_run {base : Nat} : AddR base 175 := by
 intro h l v s hl hsz hs hvb hb
 have d := Hs.start hb
 suffices W : Wp (run (Et base) 175 [.slice v l.length l.length, .string s] h) fun o => ∃ a', o.1 = .tuple #[.slice a' (addA l s).1.length (addA l s).1.length, .int .i64 (addA l s).2] ∧ Own base 9 o.2 a' (stV (addA l s).1) ∧ KB NoB h o.2 ∧ ∀ b, blk a' b → h.length ≤ b by
  obtain ⟨⟨o1, o2⟩, e, a', y1, y2⟩ := W
  simp only at y1 y2
  subst y1
  exact ⟨a', o2, e, y2⟩
 refine W.of (fun r hx => Am.r175 hx) ?_
 obtain ⟨a1, h1, e1, d, k1⟩ := d.copyS hl hs
 refine W.bs e1 ?_
 ((try simp only [n1, n2, n3, n4, n5, n6] at d); (with_reducible repeat first | refine W.a1 d ?_ | refine W.a2 ?_ | refine W.a3 ?_ | refine W.bo ?_ | refine W.a5 d fun hw d lw kw => ?_ | refine W.a6 d ?_ | refine W.a7 ?_ | refine W.a8 ?_))
 refine W.bs (implAtomAt_run (by omega) (hs.keepN k1)) ?_
 ((try simp only [n1, n2, n3, n4, n5, n6] at d); (with_reducible repeat first | refine W.a1 d ?_ | refine W.a2 ?_ | refine W.a3 ?_ | refine W.bo ?_ | refine W.a5 d fun hw d lw kw => ?_ | refine W.a6 d ?_ | refine W.a7 ?_ | refine W.a8 ?_))
 have fr : ∀ b, blk a1 b → h.length ≤ b := fun b hb => (d.rfr (i := 0) rfl rfl b hb).resolve_left fun h => h
 unfold addA
 refine W.ite (fun c => ?_) (fun c => ?_)
 ·have c : aix s l 0 ≥ 0 := by simpa using c
  rw [if_pos c]
  exact W.ret ⟨a1, rfl, d.rs (i := 0) rfl, d.kb, fr⟩
 have c : ¬ aix s l 0 ≥ 0 := by simpa using c
 rw [if_neg c]
 apply W.jb (if (!atomOk s) = true then true else decide ((l.length : Int) ≥ 200)) d
 ·refine W.bs (implAtomOk_run hsz) ?_
  ((try simp only [n1, n2, n3, n4, n5, n6] at d); (with_reducible repeat first | refine W.a1 d ?_ | refine W.a2 ?_ | refine W.a3 ?_ | refine W.bo ?_ | refine W.a5 d fun hw d lw kw => ?_ | refine W.a6 d ?_ | refine W.a7 ?_ | refine W.a8 ?_))
  refine W.ite (fun c1 => ?_) (fun c1 => ?_)
  ·rw [if_pos c1]; exact W.lb rfl rfl (KB.refl _ _)
  ·rw [if_neg c1]; exact W.lb rfl rfl (KB.refl _ _)
 intro h2 d n2
 ((try simp only [n1, n2, n3, n4, n5, n6] at d); (with_reducible repeat first | refine W.a1 d ?_ | refine W.a2 ?_ | refine W.a3 ?_ | refine W.bo ?_ | refine W.a5 d fun hw d lw kw => ?_ | refine W.a6 d ?_ | refine W.a7 ?_ | refine W.a8 ?_))
 refine W.ite (fun c1 => ?_) (fun c1 => ?_)
 ·have e : (if (!atomOk s) = true then (l, (-1 : Int)) else if decide ((l.length : Int) ≥ 200) = true then (l, -1) else (l ++ [s], (l.length : Int))) = (l, -1) := by
   by_cases c2 : (!atomOk s) = true
   ·rw [if_pos c2]
   ·rw [if_neg c2] at c1 ⊢
    rw [if_pos c1]
  rw [e]
  exact W.ret ⟨a1, rfl, d.rs (i := 0) rfl, d.kb, fr⟩
 ·have e : (if (!atomOk s) = true then (l, (-1 : Int)) else if decide ((l.length : Int) ≥ 200) = true then (l, -1) else (l ++ [s], (l.length : Int))) = (l ++ [s], (l.length : Int)) := by
   by_cases c2 : (!atomOk s) = true
   ·rw [if_pos c2] at c1; exact absurd rfl c1
   ·rw [if_neg c2] at c1 ⊢
    rw [if_neg c1]
  rw [e]
  ((try simp only [n1, n2, n3, n4, n5, n6] at d); (with_reducible repeat first | refine W.a1 d ?_ | refine W.a2 ?_ | refine W.a3 ?_ | refine W.bo ?_ | refine W.a5 d fun hw d lw kw => ?_ | refine W.a6 d ?_ | refine W.a7 ?_ | refine W.a8 ?_); (refine W.nD d fun h3 d _ kh3 => ?_); (with_reducible repeat first | refine W.a1 d ?_ | refine W.a2 ?_ | refine W.a3 ?_ | refine W.bo ?_ | refine W.a5 d fun hw d lw kw => ?_ | refine W.a6 d ?_ | refine W.a7 ?_ | refine W.a8 ?_))
  have n9 := d.kb.1
  obtain ⟨a5, h5, e5, d, q5, k5, _⟩ := d.app1O (w := 1) (i := 0) (n := l.length) (bytes := 16) rfl (fun b hb => hb) (.head _) rfl (by decide) (by rw [stV_len]; omega) rfl (by omega) (by omega)
  refine W.bs e5 ?_
  ((try simp only [n1, n2, n3, n4, n5, n6] at d); (with_reducible repeat first | refine W.a1 d ?_ | refine W.a2 ?_ | refine W.a3 ?_ | refine W.bo ?_ | refine W.a5 d fun hw d lw kw => ?_ | refine W.a6 d ?_ | refine W.a7 ?_ | refine W.a8 ?_))
  have o5 : Own base 9 h5 a5 (stV l ++ [.string s]) := d.rs (i := 0) rfl
  rw [stV_app] at o5
  refine W.ret ⟨a5, by rw [List.length_append]; rfl, o5, d.kb, fun b hb => ?_⟩
  have := q5 b hb
  have := d.kb.1
  omega
theorem specAdd_run {base : Nat} : AddR base 133 := by
 intro h l v s hl hsz hs hvb hb
 have d := Hs.start hb
 suffices W : Wp (run (Et base) 133 [.slice v l.length l.length, .string s] h) fun o => ∃ a', o.1 = .tuple #[.slice a' (addA l s).1.length (addA l s).1.length, .int .i64 (addA l s).2] ∧ Own base 9 o.2 a' (stV (addA l s).1) ∧ KB NoB h o.2 ∧ ∀ b, blk a' b → h.length ≤ b by
  obtain ⟨⟨o1, o2⟩, e, a', y1, y2⟩ := W
  simp only at y1 y2
  subst y1
  exact ⟨a', o2, e, y2⟩
 refine W.of (fun r hx => Am.r133 hx) ?_
 ((try simp only [n1, n2, n3, n4, n5, n6] at d); (with_reducible repeat first | refine W.a1 d ?_ | refine W.a2 ?_ | refine W.a3 ?_ | refine W.bo ?_ | refine W.a5 d fun hw d lw kw => ?_ | refine W.a6 d ?_ | refine W.a7 ?_ | refine W.a8 ?_); (refine W.nD d fun h1 d _ kh1 => ?_); (with_reducible repeat first | refine W.a1 d ?_ | refine W.a2 ?_ | refine W.a3 ?_ | refine W.bo ?_ | refine W.a5 d fun hw d lw kw => ?_ | refine W.a6 d ?_ | refine W.a7 ?_ | refine W.a8 ?_))
 obtain ⟨a2, h2, e2, d, k2⟩ := d.copyE hl (hs.keepN d.kb) rfl
 refine W.bs e2 ?_
 ((try simp only [n1, n2, n3, n4, n5, n6] at d); (with_reducible repeat first | refine W.a1 d ?_ | refine W.a2 ?_ | refine W.a3 ?_ | refine W.bo ?_ | refine W.a5 d fun hw d lw kw => ?_ | refine W.a6 d ?_ | refine W.a7 ?_ | refine W.a8 ?_))
 refine W.bs (specAtomAt_run (by omega) (hs.keepN d.kb)) ?_
 ((try simp only [n1, n2, n3, n4, n5, n6] at d); (with_reducible repeat first | refine W.a1 d ?_ | refine W.a2 ?_ | refine W.a3 ?_ | refine W.bo ?_ | refine W.a5 d fun hw d lw kw => ?_ | refine W.a6 d ?_ | refine W.a7 ?_ | refine W.a8 ?_))
 have fr : ∀ b, blk a2 b → h.length ≤ b := fun b hb => (d.rfr (i := 0) rfl rfl b hb).resolve_left fun h => h
 unfold addA
 have hle := aix_le s l 0
 apply W.jb (if aix s l 0 ≥ 0 then true else if (!atomOk s) = true then true else decide ((l.length : Int) ≥ 200)) d
 ·refine W.ite (fun c => ?_) (fun c => ?_)
  ·have c : aix s l 0 ≥ 0 := by simpa using c
   rw [if_pos c]; exact W.lb rfl rfl (KB.refl _ _)
  have c : ¬ aix s l 0 ≥ 0 := by simpa using c
  rw [if_neg c]
  refine W.bs (specAtomOk_run hsz) ?_
  ((try simp only [n1, n2, n3, n4, n5, n6] at d); (with_reducible repeat first | refine W.a1 d ?_ | refine W.a2 ?_ | refine W.a3 ?_ | refine W.bo ?_ | refine W.a5 d fun hw d lw kw => ?_ | refine W.a6 d ?_ | refine W.a7 ?_ | refine W.a8 ?_))
  refine W.ite (fun c1 => ?_) (fun c1 => ?_)
  ·rw [if_pos c1]; exact W.lb rfl rfl (KB.refl _ _)
  ·rw [if_neg c1]; exact W.lb rfl rfl (KB.refl _ _)
 intro h3 d n3
 ((try simp only [n1, n2, n3, n4, n5, n6] at d); (with_reducible repeat first | refine W.a1 d ?_ | refine W.a2 ?_ | refine W.a3 ?_ | refine W.bo ?_ | refine W.a5 d fun hw d lw kw => ?_ | refine W.a6 d ?_ | refine W.a7 ?_ | refine W.a8 ?_))
 refine W.ite (fun c1 => ?_) (fun c1 => ?_)
 ·have e : (if aix s l 0 ≥ 0 then (l, aix s l 0) else if (!atomOk s) = true then (l, (-1 : Int)) else if decide ((l.length : Int) ≥ 200) = true then (l, -1) else (l ++ [s], (l.length : Int))) = (l, aix s l 0) := by
   by_cases c : aix s l 0 ≥ 0
   ·rw [if_pos c]
   ·rw [if_neg c] at c1 ⊢
    rw [show aix s l 0 = -1 from by omega]
    by_cases c2 : (!atomOk s) = true
    ·rw [if_pos c2]
    ·rw [if_neg c2] at c1 ⊢
     rw [if_pos c1]
  rw [e]
  exact W.ret ⟨a2, rfl, d.rs (i := 0) rfl, d.kb, fr⟩
 ·have e : (if aix s l 0 ≥ 0 then (l, aix s l 0) else if (!atomOk s) = true then (l, (-1 : Int)) else if decide ((l.length : Int) ≥ 200) = true then (l, -1) else (l ++ [s], (l.length : Int))) = (l ++ [s], (l.length : Int)) := by
   by_cases c : aix s l 0 ≥ 0
   ·rw [if_pos c] at c1; exact absurd rfl c1
   ·rw [if_neg c] at c1 ⊢
    by_cases c2 : (!atomOk s) = true
    ·rw [if_pos c2] at c1; exact absurd rfl c1
    ·rw [if_neg c2] at c1 ⊢
     rw [if_neg c1]
  rw [e]
  ((try simp only [n1, n2, n3, n4, n5, n6] at d); (with_reducible repeat first | refine W.a1 d ?_ | refine W.a2 ?_ | refine W.a3 ?_ | refine W.bo ?_ | refine W.a5 d fun hw d lw kw => ?_ | refine W.a6 d ?_ | refine W.a7 ?_ | refine W.a8 ?_); (refine W.nD d fun h4 d _ kh4 => ?_); (with_reducible repeat first | refine W.a1 d ?_ | refine W.a2 ?_ | refine W.a3 ?_ | refine W.bo ?_ | refine W.a5 d fun hw d lw kw => ?_ | refine W.a6 d ?_ | refine W.a7 ?_ | refine W.a8 ?_))
  have n9 := d.kb.1
  obtain ⟨a5, h5, e5, d, q5, k5, _⟩ := d.app1O (w := 1) (i := 0) (n := l.length) (bytes := 16) rfl (fun b hb => hb) (.head _) rfl (by decide) (by rw [stV_len]; omega) rfl (by omega) (by omega)
  refine W.bs e5 ?_
  ((try simp only [n1, n2, n3, n4, n5, n6] at d); (with_reducible repeat first | refine W.a1 d ?_ | refine W.a2 ?_ | refine W.a3 ?_ | refine W.bo ?_ | refine W.a5 d fun hw d lw kw => ?_ | refine W.a6 d ?_ | refine W.a7 ?_ | refine W.a8 ?_))
  have o5 : Own base 9 h5 a5 (stV l ++ [.string s]) := d.rs (i := 0) rfl
  rw [stV_app] at o5
  refine W.ret ⟨a5, by rw [List.length_append]; rfl, o5, d.kb, fun b hb => ?_⟩
  have := q5 b hb
  have := d.kb.1
  omega
end Go.Proofs.Ytjmkbglnjklbcaa.Am
set_option linter.unusedSimpArgs false
set_option linter.unusedVariables false
namespace Go.Proofs.Ytjmkbglnjklbcaa.Am
open Go Go.RowKit
def Wf (f : Nat) (t : Tm) : Prop := ∃ d x, x ≤ 100 ∧ 0 ≤ lk f t d x
theorem lkS_mem2 {g : Tm → Int → Int → Int} (hg : ∀ t d x, 0 ≤ x → -1 ≤ g t d x ∧ g t d x ≤ x) : ∀ (l : List Tm) (d x : Int), x ≤ 100 → 0 ≤ lkS g l d x → ∀ t ∈ l, ∃ d' x', x' ≤ 100 ∧ 0 ≤ g t d' x'
 | [], d, x, _, _, t, ht => by cases ht
 | u :: r, d, x, hx, h, t, ht => by
  rw [lkS] at h
  by_cases h0 : x ≥ 0
  ·rw [if_pos h0] at h
   have hu := hg u d x h0
   rcases List.mem_cons.1 ht with rfl | ht
   ·refine ⟨d, x, hx, ?_⟩
    by_cases hc : 0 ≤ g t d x
    ·exact hc
    ·rw [lkS_neg _ _ _ _ (by omega)] at h; omega
   ·exact lkS_mem2 hg r _ _ (by omega) h t ht
  ·rw [if_neg h0] at h; omega
theorem Wf.open {f : Nat} {k n : Int} {s : ByteArray} {l : List Tm} (h : Wf (f + 1) (.mk k n s l)) : shB k n s l.length = true ∧ ∀ t ∈ l, Wf f t := by
 obtain ⟨d, x, hx, h⟩ := h
 rw [lk] at h
 split at h
 ·omega
 ·rename_i hn
  refine ⟨?_, fun t ht => ?_⟩
  ·cases hs : shB k n s l.length with
   | true => rfl
   | false => exact absurd (.inr (.inr hs)) hn
  ·obtain ⟨d', x', a, b⟩ := lkS_mem2 (lk_le f) l _ _ (by omega) h t ht
   exact ⟨d', x', a, b⟩
theorem Wf.of {f : Nat} {t : Tm} (h : tOk f t = true) : Wf f t := ⟨6, 100, by omega, of_decide_eq_true h⟩
def ndN (k : Int) (s : ByteArray) (m : Nat) : Nat := if k = 4 then 1 + m else if k = 5 then 2 * m else if k = 6 then 1 + s.size else 0
def needT : Nat → Tm → Nat
 | 0, _ => 0
 | f + 1, .mk k _ s l => ndN k s l.length + sumL (needT f) l
theorem sh_kinds {k n : Int} {s : ByteArray} {m : Nat} (h : shB k n s m = true) : (k = 1 ∨ k = 2 ∨ k = 3 ∨ k = 4 ∨ k = 5 ∨ k = 6) ∧ (k ≠ 4 → k ≠ 5 → m = 0) ∧ (k = 1 → -1000000 ≤ n ∧ n ≤ 1000000) ∧ (k = 3 → 0 ≤ n ∧ n ≤ 99999) ∧ (k = 4 → m ≤ 8) ∧ (k = 5 → m ≤ 20) ∧ (k = 6 → s.size ≤ 40) := by
 unfold shB at h
 by_cases h1 : k = 1
 ·subst h1
  simp only [beq_self_eq_true, if_true, Bool.and_eq_true, beq_iff_eq] at h
  obtain ⟨⟨a, _⟩, b⟩ := h
  have : -1000000 ≤ n ∧ n ≤ 1000000 := by unfold inB at a; simpa using a
  refine ⟨by omega, fun _ _ => by omega, fun _ => this, fun h => by omega, fun h => by omega, fun h => by omega, fun h => by omega⟩
 rw [if_neg (by simpa using h1)] at h
 by_cases h2 : k = 2
 ·subst h2
  simp only [beq_self_eq_true, if_true, Bool.and_eq_true, beq_iff_eq] at h
  obtain ⟨_, b⟩ := h
  refine ⟨by omega, fun _ _ => by omega, fun h => by omega, fun h => by omega, fun h => by omega, fun h => by omega, fun h => by omega⟩
 rw [if_neg (by simpa using h2)] at h
 by_cases h3 : k = 3
 ·subst h3
  simp only [beq_self_eq_true, if_true, Bool.and_eq_true, beq_iff_eq] at h
  obtain ⟨⟨a, _⟩, b⟩ := h
  have : 0 ≤ n ∧ n ≤ 99999 := by unfold inB at a; simpa using a
  refine ⟨by omega, fun _ _ => by omega, fun h => by omega, fun _ => this, fun h => by omega, fun h => by omega, fun h => by omega⟩
 rw [if_neg (by simpa using h3)] at h
 by_cases h4 : k = 4
 ·subst h4
  simp only [beq_self_eq_true, if_true, Bool.and_eq_true, beq_iff_eq, decide_eq_true_eq] at h
  obtain ⟨_, b⟩ := h
  refine ⟨by omega, fun h => absurd rfl h, fun h => by omega, fun h => by omega, fun _ => by omega, fun h => by omega, fun h => by omega⟩
 rw [if_neg (by simpa using h4)] at h
 by_cases h5 : k = 5
 ·subst h5
  simp only [beq_self_eq_true, if_true, Bool.and_eq_true, beq_iff_eq, decide_eq_true_eq] at h
  obtain ⟨_, b⟩ := h
  refine ⟨by omega, fun _ h => absurd rfl h, fun h => by omega, fun h => by omega, fun h => by omega, fun _ => by omega, fun h => by omega⟩
 rw [if_neg (by simpa using h5)] at h
 by_cases h6 : k = 6
 ·subst h6
  simp only [beq_self_eq_true, if_true, Bool.and_eq_true, beq_iff_eq, decide_eq_true_eq] at h
  obtain ⟨⟨_, a⟩, b⟩ := h
  refine ⟨by omega, fun _ _ => by omega, fun h => by omega, fun h => by omega, fun h => by omega, fun h => by omega, fun _ => by omega⟩
 ·rw [if_neg (by simpa using h6)] at h; cases h
theorem ndN_le {k n : Int} {s : ByteArray} {m : Nat} (h : shB k n s m = true) : ndN k s m ≤ 41 := by
 obtain ⟨_, _, _, _, a, b, c⟩ := sh_kinds h
 unfold ndN
 split
 ·have := a (by assumption); omega
 ·split
  ·have := b (by assumption); omega
  ·split
   ·have := c (by assumption); omega
   ·omega
theorem need_lk : ∀ (f : Nat) (t : Tm) (d x : Int), 0 ≤ lk f t d x → (needT f t : Int) + 41 * lk f t d x ≤ 41 * x
 | 0, t, d, x, h => by rw [lk] at h; omega
 | f + 1, .mk k n s l, d, x, h => by
  rw [lk] at h ⊢
  split at h
  ·omega
  ·rename_i hn
   rw [if_neg hn]
   have hs : shB k n s l.length = true := by
    cases hs : shB k n s l.length with
    | true => rfl
    | false => exact absurd (.inr (.inr hs)) hn
   have hl : ∀ (r : List Tm) (d x : Int), 0 ≤ lkS (lk f) r d x → ((sumL (needT f) r : Nat) : Int) + 41 * lkS (lk f) r d x ≤ 41 * x := by
    intro r
    induction r with
    | nil => intro d x hx; simp [sumL, lkS]
    | cons t r ihr =>
     intro d x hx
     rw [lkS] at hx ⊢
     split at hx
     ·rename_i h0
      rw [if_pos h0]
      have h1 : 0 ≤ lk f t d x := by
       by_cases hc : 0 ≤ lk f t d x
       ·exact hc
       ·rw [lkS_neg _ _ _ _ (by omega)] at hx; omega
      have a := need_lk f t d x h1
      have b := ihr d _ hx
      simp only [sumL]
      omega
     ·omega
   have := hl l _ _ h
   have := ndN_le hs
   rw [needT]
   omega
theorem Wf.need {f : Nat} {t : Tm} (h : Wf f t) : needT f t ≤ 4100 := by
 obtain ⟨d, x, hx, h⟩ := h
 have := need_lk f t d x h
 omega
def NeedR (base F : Nat) (f : Nat) : Prop := ∀ (h : AH) (p : Nat → Prop) (t : Tm) (cs : List Value), TmR h p f t cs → Wf f t → base ≤ h.length → ∃ h', run (Et base) F [.agg cs.toArray] h = some (.int .i64 (needT f t), h') ∧ KB NoB h h'
theorem implNeed_loop {base f : Nat} {a : Option Addr} {l : List Tm} {p : Nat → Prop} (hl : l.length ≤ 20) (hw : ∀ t ∈ l, Wf f t) (ih : NeedR base 135 f) : ∀ (r i : Nat) (h : AH) (acc : Int), i + r = l.length → 0 ≤ acc → acc + 4100 * r ≤ 1000000 → TsR h p f l a → base ≤ h.length →
  Wp (loopL (B135_0 base) [some (.int .i64 acc), some (.slice a l.length l.length), some (.int .i64 (l.length : Int)), some (.int .i64 (i : Int))] h) fun o => o.1 = 3 ∧ o.2.1 = [some (.int .i64 (acc + ((sumL (needT f) (l.drop i) : Nat) : Int)))] ∧ KB NoB h o.2.2 := by
 intro r
 induction r with
 | zero =>
  intro i h acc hi ha hb hs hbb
  suffices w1 : Wp (B135_0 base [some (.int .i64 acc), some (.slice a l.length l.length), some (.int .i64 (l.length : Int)), some (.int .i64 (i : Int))] h) fun o => o = (3, [some (.int .i64 acc)], h) by
   obtain ⟨o, e, rfl⟩ := w1
   refine ⟨_, loop_off (by decide) e, rfl, ?_, KB.refl _ _⟩
   rw [List.drop_of_length_le (by omega)]
   simp [sumL]
  rw [B135_0_eq]
  exact W.ifF (by simp; omega) (W.ret rfl)
 | succ r ihr =>
  intro i h acc hi ha hb hs hbb
  have hlt : i < l.length := by omega
  have hwi := hw l[i] (List.getElem_mem _)
  have hni := hwi.need
  have ed : l.drop i = l[i] :: l.drop (i + 1) := List.drop_eq_getElem_cons hlt
  suffices w1 : Wp (B135_0 base [some (.int .i64 acc), some (.slice a l.length l.length), some (.int .i64 (l.length : Int)), some (.int .i64 (i : Int))] h) fun o => o.1 = 0 ∧ o.2.1 = [some (.int .i64 (acc + (needT f l[i] : Int))), some (.slice a l.length l.length), some (.int .i64 (l.length : Int)), some (.int .i64 ((i + 1 : Nat) : Int))] ∧ KB NoB h o.2.2 by
   obtain ⟨⟨o1, o2, h'⟩, e, y1, y2, k⟩ := w1
   simp only at y1 y2 k
   subst y1; subst y2
   obtain ⟨o, eo, z1, z2, z3⟩ := ihr (i + 1) h' (acc + (needT f l[i] : Int)) (by omega) (by omega) (by omega) (hs.keep k fun _ _ h => h) (Nat.le_trans hbb k.1)
   refine ⟨o, loop_on e eo, z1, ?_, kN k z3⟩
   rw [z2, ed]
   rw [sumL, Int.natCast_add, Int.add_assoc]
  rw [B135_0_eq]
  refine W.ifT (decide_eq_true (by omega)) (W.ifT (by omega) ?_)
  cases f with
  | zero => obtain ⟨d, x, _, hx⟩ := hwi; rw [lk] at hx; omega
  | succ f =>
   obtain ⟨ad, k, n, s, a2, m, rfl, g0, g1, g2, g3, hm⟩ := hs.getT hlt
   have d := Hs.start hbb
   refine W.bs rfl (W.bI g0 (W.bI g1 (W.bT g2 (W.bS g3 ?_))))
   ((try simp only [n1, n2, n3, n4, n5, n6] at d); (with_reducible repeat first | refine W.a1 d ?_ | refine W.a2 ?_ | refine W.a3 ?_ | refine W.bo ?_ | refine W.a5 d fun hw d lw kw => ?_ | refine W.a6 d ?_ | refine W.a7 ?_ | refine W.a8 ?_); (refine W.nD d fun h2 d _ kh2 => ?_); (with_reducible repeat first | refine W.a1 d ?_ | refine W.a2 ?_ | refine W.a3 ?_ | refine W.bo ?_ | refine W.a5 d fun hw d lw kw => ?_ | refine W.a6 d ?_ | refine W.a7 ?_ | refine W.a8 ?_))
   obtain ⟨h3, e3, k3⟩ := ih hw p _ _ (hm.keep d.kb fun _ _ h => h) hwi d.ge
   refine W.bs e3 (W.bI rfl ?_)
   rw [w64i (n := acc + (needT (f + 1) l[i] : Int)) (by omega) (by omega), w64i (n := (i : Int) + 1) (by omega) (by omega)]
   exact W.ret ⟨rfl, rfl, kN d.kb k3⟩
theorem implNeed_run {base : Nat} : ∀ f, NeedR base 135 f
 | 0 => fun h p t cs _ hw _ => by obtain ⟨d, x, _, hx⟩ := hw; rw [lk] at hx; omega
 | f + 1 => by
  intro h p t cs hm hw hb
  have ih := implNeed_run (base := base) f
  obtain ⟨k, n, s, l⟩ := t
  obtain ⟨hsh, hch⟩ := hw.open
  obtain ⟨ks, k0, _, _, k4, k5, k6⟩ := sh_kinds hsh
  obtain ⟨a, rfl, hts, hsz, hln⟩ := hm.parts
  have hl20 : l.length ≤ 20 := by
   by_cases c4 : k = 4
   ·have := k4 c4; omega
   ·by_cases c5 : k = 5
    ·exact k5 c5
    ·rw [k0 c4 c5]; omega
  have d := Hs.start hb
  suffices W : Wp (run (Et base) 135 [.agg (termV k n s a l.length).toArray] h) fun o => o.1 = .int .i64 (needT (f + 1) (.mk k n s l)) ∧ KB NoB h o.2 by
   obtain ⟨⟨o1, o2⟩, e, y1, y2⟩ := W
   simp only at y1 y2
   subst y1
   exact ⟨o2, e, y2⟩
  refine W.of (fun r hx => Am.r135 hx) ?_
  ((try simp only [n1, n2, n3, n4, n5, n6] at d); (with_reducible repeat first | refine W.a1 d ?_ | refine W.a2 ?_ | refine W.a3 ?_ | refine W.bo ?_ | refine W.a5 d fun hw d lw kw => ?_ | refine W.a6 d ?_ | refine W.a7 ?_ | refine W.a8 ?_); (refine W.nD d fun h1 d _ kh1 => ?_); (with_reducible repeat first | refine W.a1 d ?_ | refine W.a2 ?_ | refine W.a3 ?_ | refine W.bo ?_ | refine W.a5 d fun hw d lw kw => ?_ | refine W.a6 d ?_ | refine W.a7 ?_ | refine W.a8 ?_))
  rw [needT]
  have leaf : k ≠ 4 → k ≠ 5 → sumL (needT f) l = 0 := fun a b => by
   have : l = [] := List.eq_nil_of_length_eq_zero (k0 a b)
   subst this; rfl
  refine W.joinP (fun q => q = ([some (.pointer (at0 h.length)), some (.int .i64 ((ndN k s l.length : Nat) : Int))], h1) ∧ (k = 4 ∨ k = 5)) ?_ fun q hq => ?_
  ·((try simp only [n1, n2, n3, n4, n5, n6] at d); (with_reducible repeat first | refine W.a1 d ?_ | refine W.a2 ?_ | refine W.a3 ?_ | refine W.bo ?_ | refine W.a5 d fun hw d lw kw => ?_ | refine W.a6 d ?_ | refine W.a7 ?_ | refine W.a8 ?_))
   refine W.ite (fun c => ?_) (fun c => ?_)
   ·have c : k = 6 := by simpa using c
    have := k6 c
    ((try simp only [n1, n2, n3, n4, n5, n6] at d); (with_reducible repeat first | refine W.a1 d ?_ | refine W.a2 ?_ | refine W.a3 ?_ | refine W.bo ?_ | refine W.a5 d fun hw d lw kw => ?_ | refine W.a6 d ?_ | refine W.a7 ?_ | refine W.a8 ?_))
    refine W.mp (W.ret ⟨?_, d.kb⟩)
    rw [leaf (by omega) (by omega), w64i (by omega) (by omega)]
    unfold ndN
    rw [if_neg (by omega), if_neg (by omega), if_pos c]
    congr 1
   have c6 : ¬ k = 6 := by simpa using c
   refine W.ite (fun c => ?_) (fun c => ?_)
   ·have c : k = 4 := by simpa using c
    ((try simp only [n1, n2, n3, n4, n5, n6] at d); (with_reducible repeat first | refine W.a1 d ?_ | refine W.a2 ?_ | refine W.a3 ?_ | refine W.bo ?_ | refine W.a5 d fun hw d lw kw => ?_ | refine W.a6 d ?_ | refine W.a7 ?_ | refine W.a8 ?_))
    rw [w64i (n := 1 + (l.length : Int)) (by omega) (by omega)]
    refine W.inl ⟨?_, .inl c⟩
    unfold ndN
    rw [if_pos c]
    rfl
   have c4 : ¬ k = 4 := by simpa using c
   refine W.ite (fun c => ?_) (fun c => ?_)
   ·have c : k = 5 := by simpa using c
    ((try simp only [n1, n2, n3, n4, n5, n6] at d); (with_reducible repeat first | refine W.a1 d ?_ | refine W.a2 ?_ | refine W.a3 ?_ | refine W.bo ?_ | refine W.a5 d fun hw d lw kw => ?_ | refine W.a6 d ?_ | refine W.a7 ?_ | refine W.a8 ?_))
    rw [w64i (n := 2 * (l.length : Int)) (by omega) (by omega)]
    refine W.inl ⟨?_, .inr c⟩
    unfold ndN
    rw [if_neg c4, if_pos c]
    rfl
   ·have c5 : ¬ k = 5 := by simpa using c
    refine W.mp (W.ret ⟨?_, d.kb⟩)
    rw [leaf c4 c5]
    unfold ndN
    rw [if_neg c4, if_neg c5, if_neg c6]
    rfl
  obtain ⟨rfl, hk⟩ := hq
  ((try simp only [n1, n2, n3, n4, n5, n6] at d); (with_reducible repeat first | refine W.a1 d ?_ | refine W.a2 ?_ | refine W.a3 ?_ | refine W.bo ?_ | refine W.a5 d fun hw d lw kw => ?_ | refine W.a6 d ?_ | refine W.a7 ?_ | refine W.a8 ?_))
  have hnd := ndN_le hsh
  refine W.wb (implNeed_loop (base := base) (p := p) hl20 hch ih l.length 0 h1 _ (by omega) (by omega) (by omega) (hts.keep d.kb fun _ _ h => h) d.ge) ?_
  rintro ⟨o1, o2, h2⟩ ⟨y1, y2, k2⟩
  simp only at y1 y2 k2
  subst y1; subst y2
  refine W.ifT rfl (W.bI rfl (W.ret ⟨?_, kN d.kb k2⟩))
  rw [List.drop_zero, Int.natCast_add]
theorem specNeed_loop {base f tb : Nat} {k n : Int} {s : ByteArray} {a : Option Addr} {l : List Tm} {p : Nat → Prop} (hl : l.length ≤ 20) (hk : l ≠ [] → k = 4 ∨ k = 5) (hw : ∀ t ∈ l, Wf f t) (ih : NeedR base 71 f) : ∀ (r i : Nat) (h : AH) (acc : Int), i + r = l.length → 0 ≤ acc → acc + 4100 * r ≤ 1000000 → TsR h p f l a → base ≤ h.length → Own base 39 h (at0 tb) (termV k n s a l.length) →
  Wp (loopL (B71_0 base) [some (.pointer (at0 tb)), some (.int .i64 acc), some (.int .i64 (i : Int))] h) fun o => o.1 = 3 ∧ o.2.1 = [some (.int .i64 (acc + ((sumL (needT f) (l.drop i) : Nat) : Int)))] ∧ KB NoB h o.2.2 := by
 intro r
 induction r with
 | zero =>
  intro i h acc hi ha hb hs hbb o
  suffices w1 : Wp (B71_0 base [some (.pointer (at0 tb)), some (.int .i64 acc), some (.int .i64 (i : Int))] h) fun o => o = (3, [some (.int .i64 acc)], h) by
   obtain ⟨o, e, rfl⟩ := w1
   refine ⟨_, loop_off (by decide) e, rfl, ?_, KB.refl _ _⟩
   rw [List.drop_of_length_le (by omega)]
   simp [sumL]
  rw [B71_0_eq]
  refine W.join (W.bS (o.at0 (i := 3) rfl) (W.ifF (by simp; omega) (W.il ?_)))
  exact W.bs rfl (W.bs rfl (W.bs rfl (W.bs rfl (W.ifF (by decide) (W.ret rfl)))))
 | succ r ihr =>
  intro i h acc hi ha hb hs hbb o
  have hlt : i < l.length := by omega
  have hwi := hw l[i] (List.getElem_mem _)
  have hni := hwi.need
  have hk := hk (fun e => by rw [e] at hlt; simp at hlt)
  have ed : l.drop i = l[i] :: l.drop (i + 1) := List.drop_eq_getElem_cons hlt
  suffices w1 : Wp (B71_0 base [some (.pointer (at0 tb)), some (.int .i64 acc), some (.int .i64 (i : Int))] h) fun o => o.1 = 0 ∧ o.2.1 = [some (.pointer (at0 tb)), some (.int .i64 (acc + (needT f l[i] : Int))), some (.int .i64 ((i + 1 : Nat) : Int))] ∧ KB NoB h o.2.2 by
   obtain ⟨⟨o1, o2, h'⟩, e, y1, y2, k⟩ := w1
   simp only at y1 y2 k
   subst y1; subst y2
   obtain ⟨o, eo, z1, z2, z3⟩ := ihr (i + 1) h' (acc + (needT f l[i] : Int)) (by omega) (by omega) (by omega) (hs.keep k fun _ _ h => h) (Nat.le_trans hbb k.1) (o.keepN k)
   refine ⟨o, loop_on e eo, z1, ?_, kN k z3⟩
   rw [z2, ed]
   rw [sumL, Int.natCast_add, Int.add_assoc]
  rw [B71_0_eq]
  refine W.join (W.bS (o.at0 (i := 3) rfl) (W.ifT (decide_eq_true (by omega)) (W.bI (o.at0 (i := 0) rfl) (W.bs l1In_run (W.bB rfl (W.il ?_))))))
  refine W.bs rfl (W.bs rfl (W.bs rfl (W.bs rfl (W.ifT ?_ ?_))))
  ·unfold inB; rcases hk with rfl | rfl <;> rfl
  refine W.bS (o.at0 (i := 3) rfl) (W.ifT (by omega) ?_)
  cases f with
  | zero => obtain ⟨d, x, _, hx⟩ := hwi; rw [lk] at hx; omega
  | succ f =>
   obtain ⟨ad, k, n, s, a2, m, rfl, g0, g1, g2, g3, hm⟩ := hs.getT hlt
   refine W.bs rfl (W.bI g0 (W.bI g1 (W.bT g2 (W.bS g3 ?_))))
   obtain ⟨h3, e3, k3⟩ := ih h p _ _ hm hwi hbb
   refine W.bs e3 (W.bI rfl ?_)
   rw [w64i (n := acc + (needT (f + 1) l[i] : Int)) (by omega) (by omega), w64i (n := (i : Int) + 1) (by omega) (by omega)]
   exact W.ret ⟨rfl, rfl, k3⟩
theorem specNeed_run {base : Nat} : ∀ f, NeedR base 71 f
 | 0 => fun h p t cs _ hw _ => by obtain ⟨d, x, _, hx⟩ := hw; rw [lk] at hx; omega
 | f + 1 => by
  intro h p t cs hm hw hb
  have ih := specNeed_run (base := base) f
  obtain ⟨k, n, s, l⟩ := t
  obtain ⟨hsh, hch⟩ := hw.open
  obtain ⟨ks, k0, _, _, k4, k5, k6⟩ := sh_kinds hsh
  obtain ⟨a, rfl, hts, hsz, hln⟩ := hm.parts
  have hl20 : l.length ≤ 20 := by
   by_cases c4 : k = 4
   ·have := k4 c4; omega
   ·by_cases c5 : k = 5
    ·exact k5 c5
    ·rw [k0 c4 c5]; omega
  have d := Hs.start hb
  suffices W : Wp (run (Et base) 71 [.agg (termV k n s a l.length).toArray] h) fun o => o.1 = .int .i64 (needT (f + 1) (.mk k n s l)) ∧ KB NoB h o.2 by
   obtain ⟨⟨o1, o2⟩, e, y1, y2⟩ := W
   simp only at y1 y2
   subst y1
   exact ⟨o2, e, y2⟩
  refine W.of (fun r hx => Am.r71 hx) ?_
  ((try simp only [n1, n2, n3, n4, n5, n6] at d); (with_reducible repeat first | refine W.a1 d ?_ | refine W.a2 ?_ | refine W.a3 ?_ | refine W.bo ?_ | refine W.a5 d fun hw d lw kw => ?_ | refine W.a6 d ?_ | refine W.a7 ?_ | refine W.a8 ?_); (refine W.nD d fun h1 d _ kh1 => ?_); (with_reducible repeat first | refine W.a1 d ?_ | refine W.a2 ?_ | refine W.a3 ?_ | refine W.bo ?_ | refine W.a5 d fun hw d lw kw => ?_ | refine W.a6 d ?_ | refine W.a7 ?_ | refine W.a8 ?_))
  rw [needT]
  refine W.joinP (fun q => q = ([some (.pointer (at0 h.length)), some (.int .i64 ((ndN k s l.length : Nat) : Int))], h1)) ?_ fun q hq => ?_
  ·((try simp only [n1, n2, n3, n4, n5, n6] at d); (with_reducible repeat first | refine W.a1 d ?_ | refine W.a2 ?_ | refine W.a3 ?_ | refine W.bo ?_ | refine W.a5 d fun hw d lw kw => ?_ | refine W.a6 d ?_ | refine W.a7 ?_ | refine W.a8 ?_))
   refine W.ite (fun c => ?_) (fun c => ?_)
   ·have c : k = 4 := by simpa using c
    ((try simp only [n1, n2, n3, n4, n5, n6] at d); (with_reducible repeat first | refine W.a1 d ?_ | refine W.a2 ?_ | refine W.a3 ?_ | refine W.bo ?_ | refine W.a5 d fun hw d lw kw => ?_ | refine W.a6 d ?_ | refine W.a7 ?_ | refine W.a8 ?_))
    rw [w64i (n := 1 + (l.length : Int)) (by omega) (by omega)]
    refine W.inl ?_
    unfold ndN
    rw [if_pos c]
    rfl
   have c4 : ¬ k = 4 := by simpa using c
   refine W.ite (fun c => ?_) (fun c => ?_)
   ·have c : k = 5 := by simpa using c
    ((try simp only [n1, n2, n3, n4, n5, n6] at d); (with_reducible repeat first | refine W.a1 d ?_ | refine W.a2 ?_ | refine W.a3 ?_ | refine W.bo ?_ | refine W.a5 d fun hw d lw kw => ?_ | refine W.a6 d ?_ | refine W.a7 ?_ | refine W.a8 ?_))
    rw [w64i (n := 2 * (l.length : Int)) (by omega) (by omega)]
    refine W.inl ?_
    unfold ndN
    rw [if_neg c4, if_pos c]
    rfl
   have c5 : ¬ k = 5 := by simpa using c
   refine W.ite (fun c => ?_) (fun c => ?_)
   ·have c : k = 6 := by simpa using c
    have := k6 c
    ((try simp only [n1, n2, n3, n4, n5, n6] at d); (with_reducible repeat first | refine W.a1 d ?_ | refine W.a2 ?_ | refine W.a3 ?_ | refine W.bo ?_ | refine W.a5 d fun hw d lw kw => ?_ | refine W.a6 d ?_ | refine W.a7 ?_ | refine W.a8 ?_))
    rw [w64i (n := 1 + (s.size : Int)) (by omega) (by omega)]
    refine W.inl ?_
    unfold ndN
    rw [if_neg c4, if_neg c5, if_pos c]
    rfl
   ·have c6 : ¬ k = 6 := by simpa using c
    refine W.inl ?_
    unfold ndN
    rw [if_neg c4, if_neg c5, if_neg c6]
    rfl
  subst hq
  ((try simp only [n1, n2, n3, n4, n5, n6] at d); (with_reducible repeat first | refine W.a1 d ?_ | refine W.a2 ?_ | refine W.a3 ?_ | refine W.bo ?_ | refine W.a5 d fun hw d lw kw => ?_ | refine W.a6 d ?_ | refine W.a7 ?_ | refine W.a8 ?_))
  have hnd := ndN_le hsh
  refine W.wb (specNeed_loop (base := base) (p := p) hl20 (fun hne => by
   by_cases c4 : k = 4
   ·exact .inl c4
   ·by_cases c5 : k = 5
    ·exact .inr c5
    ·exact absurd (List.eq_nil_of_length_eq_zero (k0 c4 c5)) hne) hch ih l.length 0 h1 _ (by omega) (by omega) (by omega) (hts.keep d.kb fun _ _ h => h) d.ge (d.ol (.head _))) ?_
  rintro ⟨o1, o2, h2⟩ ⟨y1, y2, k2⟩
  simp only at y1 y2 k2
  subst y1; subst y2
  refine W.ifT rfl (W.bI rfl (W.ret ⟨?_, kN d.kb k2⟩))
  rw [List.drop_zero, Int.natCast_add]
end Go.Proofs.Ytjmkbglnjklbcaa.Am
set_option linter.unusedSimpArgs false
set_option linter.unusedVariables false
namespace Go.Proofs.Ytjmkbglnjklbcaa.Am
open Go Go.RowKit
abbrev PS := List Int × List ByteArray
def bsL (s : ByteArray) : List Int := s.data.toList.map fun x => (x.toNat : Int)
theorem bsL_len (s : ByteArray) : (bsL s).length = s.size := by unfold bsL; rw [List.length_map, Array.length_toList]; rfl
def ptT (g : PS → Tm → PS × Int × Bool) : List Tm → Nat → PS → PS × Bool
 | [], _, p => (p, true)
 | t :: r, pos, p => ((ptT g r (pos + 1) ((g p t).1.1.set pos (g p t).2.1, (g p t).1.2)).1, (g p t).2.2 && (ptT g r (pos + 1) ((g p t).1.1.set pos (g p t).2.1, (g p t).1.2)).2)
def ptL (g : PS → Tm → PS × Int × Bool) (fr : Int) : List Tm → Nat → PS → PS × Bool
 | [], _, p => (p, true)
 | t :: r, pos, p => ((ptL g fr r (pos + 2) (((g p t).1.1.set pos (g p t).2.1).set (pos + 1) (mkW 5 (fr + pos + 2)), (g p t).1.2)).1, (g p t).2.2 && (ptL g fr r (pos + 2) (((g p t).1.1.set pos (g p t).2.1).set (pos + 1) (mkW 5 (fr + pos + 2)), (g p t).1.2)).2)
def pt (fr : Int) : Nat → PS → Tm → PS × Int × Bool
 | 0, p, _ => (p, 0, true)
 | f + 1, p, .mk k n s l =>
  if k = 1 then (p, mkW 0 (n + 1000000), true)
  else if k = 2 then ((p.1, (addA p.2 s).1), mkW 1 (addA p.2 s).2, decide ((addA p.2 s).2 ≥ 0))
  else if k = 3 then (p, mkW 2 n, true)
  else if k = 6 then ((p.1 ++ (s.size : Int) :: bsL s, p.2), mkW 6 (fr + p.1.length), true)
  else if k = 4 then ((ptT (pt fr f) l (p.1.length + 1) (p.1 ++ (l.length : Int) :: List.replicate l.length 0, p.2)).1, mkW 4 (fr + p.1.length), (ptT (pt fr f) l (p.1.length + 1) (p.1 ++ (l.length : Int) :: List.replicate l.length 0, p.2)).2)
  else if l = [] then (p, 3, true)
  else (((ptL (pt fr f) fr l p.1.length (p.1 ++ List.replicate (2 * l.length) 0, p.2)).1.1.set (p.1.length + 2 * l.length - 1) 3, (ptL (pt fr f) fr l p.1.length (p.1 ++ List.replicate (2 * l.length) 0, p.2)).1.2), mkW 5 (fr + p.1.length), (ptL (pt fr f) fr l p.1.length (p.1 ++ List.replicate (2 * l.length) 0, p.2)).2)
theorem addA_len (l : List ByteArray) (s : ByteArray) : (addA l s).1.length ≤ max l.length 200 := by
 unfold addA
 split
 ·exact Nat.le_max_left _ _
 ·split
  ·exact Nat.le_max_left _ _
  ·split
   ·exact Nat.le_max_left _ _
   ·rename_i h
    have : ¬ ((l.length : Int) ≥ 200) := by simpa using h
    rw [List.length_append]
    simp only [List.length_singleton]
    omega
def PtOk (g : PS → Tm → PS × Int × Bool) (nd : Tm → Nat) (t : Tm) : Prop := ∀ p : PS, (g p t).1.1.length = p.1.length + nd t ∧ (g p t).1.2.length ≤ max p.2.length 200
theorem ptT_len {g : PS → Tm → PS × Int × Bool} {nd : Tm → Nat} : ∀ (l : List Tm) (pos : Nat) (p : PS), (∀ t ∈ l, PtOk g nd t) → (ptT g l pos p).1.1.length = p.1.length + sumL nd l ∧ (ptT g l pos p).1.2.length ≤ max p.2.length 200
 | [], pos, p, _ => ⟨rfl, Nat.le_max_left _ _⟩
 | t :: r, pos, p, h => by
  have a := h t (.head _) p
  have b := ptT_len r (pos + 1) ((g p t).1.1.set pos (g p t).2.1, (g p t).1.2) fun u hu => h u (.tail _ hu)
  simp only [List.length_set] at b
  rw [ptT, sumL]
  simp only
  omega
theorem ptL_len {g : PS → Tm → PS × Int × Bool} {nd : Tm → Nat} {fr : Int} : ∀ (l : List Tm) (pos : Nat) (p : PS), (∀ t ∈ l, PtOk g nd t) → (ptL g fr l pos p).1.1.length = p.1.length + sumL nd l ∧ (ptL g fr l pos p).1.2.length ≤ max p.2.length 200
 | [], pos, p, _ => ⟨rfl, Nat.le_max_left _ _⟩
 | t :: r, pos, p, h => by
  have a := h t (.head _) p
  have b := ptL_len (fr := fr) r (pos + 2) (((g p t).1.1.set pos (g p t).2.1).set (pos + 1) (mkW 5 (fr + pos + 2)), (g p t).1.2) fun u hu => h u (.tail _ hu)
  simp only [List.length_set] at b
  rw [ptL, sumL]
  simp only
  omega
theorem pt_ok {fr : Int} : ∀ (f : Nat) (t : Tm), Wf f t → PtOk (pt fr f) (needT f) t
 | 0, t, hw => by obtain ⟨d, x, _, hx⟩ := hw; rw [lk] at hx; omega
 | f + 1, .mk k n s l, hw => fun p => by
  obtain ⟨hsh, hch⟩ := hw.open
  obtain ⟨ks, k0, _⟩ := sh_kinds hsh
  have ih : ∀ t ∈ l, PtOk (pt fr f) (needT f) t := fun t ht => pt_ok f t (hch t ht)
  have leaf : k ≠ 4 → k ≠ 5 → sumL (needT f) l = 0 := fun a b => by
   have : l = [] := List.eq_nil_of_length_eq_zero (k0 a b)
   subst this; rfl
  rw [pt, needT]
  unfold ndN
  by_cases c1 : k = 1
  ·rw [if_pos c1, if_neg (by omega), if_neg (by omega), if_neg (by omega), leaf (by omega) (by omega)]
   exact ⟨rfl, Nat.le_max_left _ _⟩
  rw [if_neg c1]
  by_cases c2 : k = 2
  ·rw [if_pos c2, if_neg (by omega), if_neg (by omega), if_neg (by omega), leaf (by omega) (by omega)]
   exact ⟨rfl, addA_len _ _⟩
  rw [if_neg c2]
  by_cases c3 : k = 3
  ·rw [if_pos c3, if_neg (by omega), if_neg (by omega), if_neg (by omega), leaf (by omega) (by omega)]
   exact ⟨rfl, Nat.le_max_left _ _⟩
  rw [if_neg c3]
  by_cases c6 : k = 6
  ·rw [if_pos c6, if_neg (by omega), if_neg (by omega), if_pos c6, leaf (by omega) (by omega)]
   refine ⟨?_, Nat.le_max_left _ _⟩
   simp only [List.length_append, List.length_cons, bsL_len]
   omega
  rw [if_neg c6]
  by_cases c4 : k = 4
  ·rw [if_pos c4, if_pos c4]
   have := ptT_len (g := pt fr f) l (p.1.length + 1) (p.1 ++ (l.length : Int) :: List.replicate l.length 0, p.2) ih
   simp only [List.length_append, List.length_cons, List.length_replicate] at this ⊢
   omega
  rw [if_neg c4, if_neg c4, if_pos (show k = 5 by omega)]
  by_cases cl : l = []
  ·rw [if_pos cl]
   subst cl
   exact ⟨rfl, Nat.le_max_left _ _⟩
  ·rw [if_neg cl]
   have := ptL_len (g := pt fr f) (fr := fr) l p.1.length (p.1 ++ List.replicate (2 * l.length) 0, p.2) ih
   simp only [List.length_append, List.length_replicate, List.length_set] at this ⊢
   omega
abbrev rW (base : Nat) (a : Option Addr) (l : List Int) : Rs := ⟨blk a, true, fun y => Own base 3 y a (iv .i64 l)⟩
theorem setAt_ivs {l : List Int} {j : Nat} {v : Int} (hj : j < l.length) : setAt (iv .i64 l) j [.int .i64 v] = iv .i64 (l.set j v) := by
 unfold setAt iv
 rw [List.set_eq_take_append_cons_drop, if_pos hj]
 simp
theorem rep_ivs : ∀ n, rep [Value.int .i64 0] n = iv .i64 (List.replicate n 0)
 | 0 => rfl
 | n + 1 => by simp only [rep, rep_ivs n]; rfl
theorem Hs.setW {base i j : Nat} {V : Fp} {h0 h : AH} {D : Ds} {R : List Rs} {a : Option Addr} {l : List Int} {v : Int} (d : Hs base V h0 h D R) (ei : R[i]? = some (rW base a l)) (hj : j < l.length) :
  ∃ ad h', a = some ad ∧ Am.wr base h ad.block (ad.off + j) [.int .i64 v] = some h' ∧ Hs base V h0 h' D (R.set i (rW base a (l.set j v))) ∧ KB (blk a) h h' := by
 obtain ⟨ad, h', ea, ew, ow, kw, _⟩ := Own.wrA (d.rs ei : Own base 3 h a (iv .i64 l)) (i := j) (new := [.int .i64 v]) (by simp; omega) (by simp)
 rw [setAt_ivs hj] at ow
 exact ⟨ad, h', ea, ew, d.upd (r := rW base a l) (r' := rW base a (l.set j v)) (Upd.at ei) rfl rfl kw (fun b hb => .inl hb) ow (fun U y y' k hs z => z.keep k hs) (fun b hb => .inl hb), kw⟩
theorem Hs.extW {base i m : Nat} {V : Fp} {h0 h : AH} {D : Ds} {R : List Rs} {a : Option Addr} {l new : List Int} {src : Option (List Value)} (d : Hs base V h0 h D R) (ei : R[i]? = some (rW base a l)) (hs : src = some (iv .i64 new)) (hm : new.length = m) (hl : l.length + m ≤ 1000000) :
  ∃ a' h', Am.app base h 3 1 8 a l.length src m = some (.slice a' (l.length + m) (l.length + m), h') ∧ Hs base V h0 h' D (R.set i (rW base a' (l ++ new))) ∧ KB (blk a) h h' := by
 obtain ⟨a', h', e, d, k⟩ := d.appN (i := i) (n := l.length) (m := m) (sz := 1) (bytes := 8) ei (fun b hb => hb) (by simp) (by decide) hs (by omega) (by omega) (by simp [hm])
 rw [iv_append] at d
 exact ⟨a', h', e, d, k⟩
theorem Hs.sw4 {base : Nat} {V : Fp} {h0 h : AH} {D : Ds} {x y z c : Rs} (d : Hs base V h0 h D [x, y, z, c]) : Hs base V h0 h D [c, y, z, x] := by
 have d := d.frontR (Del.at (i := 2) rfl)
 have d := d.frontR (Del.at (i := 2) rfl)
 exact d.frontR (Del.at (i := 3) rfl)
abbrev ptV (a : Option Addr) (n : Nat) (fr : Int) (aa : Option Addr) (m : Nat) (bad : Bool) : List Value := [.slice a n n, .int .i64 fr, .slice aa m m, .bool bad]
abbrev rTR (P : Fp) (f : Nat) (t : Tm) (cs : List Value) : Rs := ⟨P, false, fun y => TmR y P f t cs⟩
abbrev rTSR (P : Fp) (f : Nat) (l : List Tm) (a : Option Addr) : Rs := ⟨P, false, fun y => TsR y P f l a⟩
theorem imP {P : Fp} {A B : AH → Prop} {y z : Rs} (hy : y.mu = true) (hz : z.mu = true) {R1 : List Rs} : ∀ r ∈ [(⟨P, false, A⟩ : Rs), y, z], r.mu = false → ∃ r0 ∈ (⟨P, false, B⟩ : Rs) :: R1, r0.mu = false ∧ r0.S = r.S := by
 intro r hr hm
 simp only [List.mem_cons, List.not_mem_nil, or_false] at hr
 rcases hr with rfl | rfl | rfl
 ·exact ⟨_, .head _, rfl, rfl⟩
 ·rw [hy] at hm; cases hm
 ·rw [hz] at hm; cases hm
def PutR (base : Nat) (f : Nat) : Prop := ∀ (pb : Nat) (fr : Int) (P : Fp) (t : Tm) (cs : List Value) (w : List Int) (ats : List ByteArray) (a aa : Option Addr) (bad : Bool) (V : Fp) (h0 h : AH), Wf f t → (0 ≤ fr ∧ fr ≤ 200000) → w.length + needT f t ≤ 100000 → ats.length ≤ 1048576 →
 Hs base V h0 h [(pb, 166, ptV a w.length fr aa ats.length bad)] [rTR P f t cs, rW base a w, rSt base aa ats] →
 Wp (run (Et base) 136 [.pointer (at0 pb), .agg cs.toArray] h) fun o => ∃ a' aa', o.1 = .int .i64 (pt fr f (w, ats) t).2.1 ∧ Hs base V h0 o.2 [(pb, 166, ptV a' (pt fr f (w, ats) t).1.1.length fr aa' (pt fr f (w, ats) t).1.2.length (bad || !(pt fr f (w, ats) t).2.2))] [rTR P f t cs, rW base a' (pt fr f (w, ats) t).1.1, rSt base aa' (pt fr f (w, ats) t).1.2]
theorem room_run {base pb n : Nat} {fr : Int} {R : List Rs} {x : Rs} {w : List Int} {ats : List ByteArray} {a aa : Option Addr} {bad : Bool} {V : Fp} {h0 h : AH} {D : Ds} (hn : w.length + n ≤ 1000000) (d : Hs base V h0 h ((pb, 166, ptV a w.length fr aa ats.length bad) :: D) (x :: rW base a w :: R)) :
  Wp (run (Et base) 176 [.pointer (at0 pb), .int .i64 (n : Int)] h) fun o => ∃ a', o.1 = .int .i64 (w.length : Int) ∧ Hs base V h0 o.2 ((pb, 166, ptV a' (w ++ List.replicate n 0).length fr aa ats.length bad) :: D) (x :: rW base a' (w ++ List.replicate n 0) :: R) := by
 refine W.of (fun r hx => Am.r176 hx) ?_
 ((try simp only [n1, n2, n3, n4, n5, n6] at d); (with_reducible repeat first | refine W.a1 d ?_ | refine W.a2 ?_ | refine W.a3 ?_ | refine W.bo ?_ | refine W.a5 d fun hw d lw kw => ?_ | refine W.a6 d ?_ | refine W.a7 ?_ | refine W.a8 ?_))
 refine W.ifT ⟨by omega, by omega⟩ ?_
 obtain ⟨a', h2, e2, d, _⟩ := d.extW (i := 1) (m := n) (new := List.replicate n 0) (src := some (rep [.int .i64 0] (Int.toNat (n : Int)))) rfl (by rw [Int.toNat_natCast, rep_ivs]) (by simp) (by omega)
 rw [Int.toNat_natCast] at e2 ⊢
 refine W.bs e2 ?_
 ((try simp only [n1, n2, n3, n4, n5, n6] at d); (with_reducible repeat first | refine W.a1 d ?_ | refine W.a2 ?_ | refine W.a3 ?_ | refine W.bo ?_ | refine W.a5 d fun hw d lw kw => ?_ | refine W.a6 d ?_ | refine W.a7 ?_ | refine W.a8 ?_))
 rw [show w.length + n = (w ++ List.replicate n 0).length from by simp] at d
 exact W.ret ⟨a', rfl, d⟩
end Go.Proofs.Ytjmkbglnjklbcaa.Am
set_option linter.unusedSimpArgs false
set_option linter.unusedVariables false
namespace Go.Proofs.Ytjmkbglnjklbcaa.Am
open Go Go.RowKit
theorem set_bin {w0 B : List Int} {c : Int} {i : Nat} (hi : i < B.length) : (w0 ++ c :: (B.take i ++ List.replicate (B.length - i) 0)).set (w0.length + 1 + i) B[i] = w0 ++ c :: (B.take (i + 1) ++ List.replicate (B.length - (i + 1)) 0) := by
 have e1 : B.length - i = (B.length - (i + 1)) + 1 := by omega
 have e2 : (B.take i).length = i := by rw [List.length_take]; omega
 rw [e1, List.replicate_succ, List.set_append_right _ _ (by omega), show w0.length + 1 + i - w0.length = i + 1 from by omega, List.set_cons_succ, List.set_append_right _ _ (by omega), e2, Nat.sub_self, List.set_cons_zero, List.take_succ_eq_append_getElem hi, List.append_assoc]
 rfl
theorem putBin_loop {base pb tb : Nat} {fr : Int} {x : Rs} {ats : List ByteArray} {aa : Option Addr} {bad : Bool} {V : Fp} {h0 : AH} {k n : Int} {s : ByteArray} {ta : Option Addr} {m : Nat} {w0 : List Int} (hs : s.size ≤ 40) (hw : w0.length ≤ 100000) : ∀ (r i : Nat) (h : AH) (a : Option Addr), i + r = s.size → Hs base V h0 h [(pb, 166, ptV a (w0.length + 1 + s.size) fr aa ats.length bad), (tb, 39, termV k n s ta m)] [x, rW base a (w0 ++ (s.size : Int) :: ((bsL s).take i ++ List.replicate ((bsL s).length - i) 0)), rSt base aa ats] →
  Wp (loopL (B136_0 base) [some (.pointer (at0 pb)), some (.pointer (at0 tb)), some (.int .i64 (w0.length : Int)), some (.int .i64 (i : Int))] h) fun o => o.1 = 3 ∧ o.2.1 = [some (.pointer (at0 pb)), some (.int .i64 (w0.length : Int))] ∧ Hs base V h0 o.2.2 [(pb, 166, ptV a (w0.length + 1 + s.size) fr aa ats.length bad), (tb, 39, termV k n s ta m)] [x, rW base a (w0 ++ (s.size : Int) :: bsL s), rSt base aa ats] := by
 have hbl := bsL_len s
 intro r
 induction r with
 | zero =>
  intro i h a hi d
  suffices w1 : Wp (B136_0 base [some (.pointer (at0 pb)), some (.pointer (at0 tb)), some (.int .i64 (w0.length : Int)), some (.int .i64 (i : Int))] h) fun o => o = (3, [some (.pointer (at0 pb)), some (.int .i64 (w0.length : Int))], h) by
   obtain ⟨o, e, rfl⟩ := w1
   refine ⟨_, loop_off (by decide) e, rfl, rfl, ?_⟩
   rw [List.take_of_length_le (by omega), show (bsL s).length - i = 0 from by omega, List.replicate_zero, List.append_nil] at d
   exact d
  rw [B136_0_eq]
  ((try simp only [n1, n2, n3, n4, n5, n6] at d); (with_reducible repeat first | refine W.a1 d ?_ | refine W.a2 ?_ | refine W.a3 ?_ | refine W.bo ?_ | refine W.a5 d fun hw d lw kw => ?_ | refine W.a6 d ?_ | refine W.a7 ?_ | refine W.a8 ?_))
  exact W.ifF (by simp; omega) (W.ret rfl)
 | succ r ihr =>
  intro i h a hi d
  have hlt : i < (bsL s).length := by omega
  suffices w1 : Wp (B136_0 base [some (.pointer (at0 pb)), some (.pointer (at0 tb)), some (.int .i64 (w0.length : Int)), some (.int .i64 (i : Int))] h) fun o => o.1 = 0 ∧ o.2.1 = [some (.pointer (at0 pb)), some (.pointer (at0 tb)), some (.int .i64 (w0.length : Int)), some (.int .i64 ((i + 1 : Nat) : Int))] ∧ Hs base V h0 o.2.2 [(pb, 166, ptV a (w0.length + 1 + s.size) fr aa ats.length bad), (tb, 39, termV k n s ta m)] [x, rW base a (w0 ++ (s.size : Int) :: ((bsL s).take (i + 1) ++ List.replicate ((bsL s).length - (i + 1)) 0)), rSt base aa ats] by
   obtain ⟨⟨o1, o2, h'⟩, e, y1, y2, d'⟩ := w1
   simp only at y1 y2 d'
   subst y1; subst y2
   obtain ⟨o, eo, q⟩ := ihr (i + 1) h' a (by omega) d'
   exact ⟨o, loop_on e eo, q⟩
  rw [B136_0_eq]
  ((try simp only [n1, n2, n3, n4, n5, n6] at d); (with_reducible repeat first | refine W.a1 d ?_ | refine W.a2 ?_ | refine W.a3 ?_ | refine W.bo ?_ | refine W.a5 d fun hw d lw kw => ?_ | refine W.a6 d ?_ | refine W.a7 ?_ | refine W.a8 ?_))
  refine W.ifT (decide_eq_true (by omega)) ?_
  ((try simp only [n1, n2, n3, n4, n5, n6] at d); (with_reducible repeat first | refine W.a1 d ?_ | refine W.a2 ?_ | refine W.a3 ?_ | refine W.bo ?_ | refine W.a5 d fun hw d lw kw => ?_ | refine W.a6 d ?_ | refine W.a7 ?_ | refine W.a8 ?_))
  rw [w64i (n := (w0.length : Int) + 1) (by omega) (by omega), w64i (n := (w0.length : Int) + 1 + (i : Int)) (by omega) (by omega), w64i (n := (i : Int) + 1) (by omega) (by omega)]
  have hv : IntKind.wrap .i64 ((s.data.toList.getD (Int.toNat (i : Int)) 0).toNat : Int) = (bsL s)[i] := by
   have hd : i < s.data.toList.length := by rw [Array.length_toList]; exact Nat.lt_of_lt_of_le hlt (by rw [hbl]; exact Nat.le_refl _)
   have e1 : (bsL s)[i] = ((s.data.toList[i]).toNat : Int) := List.getElem_map _
   rw [Int.toNat_natCast, List.getD_eq_getElem?_getD, List.getElem?_eq_getElem hd, Option.getD_some, e1]
   have := (s.data.toList[i]).toNat_lt
   exact w64i (by omega) (by omega)
  rw [hv]
  refine W.ifT ⟨by omega, by omega⟩ ?_
  obtain ⟨ad, h5, ea, ew, d, _⟩ := d.setW (i := 1) (j := w0.length + 1 + i) (v := (bsL s)[i]) rfl (by simp [hbl]; omega)
  subst ea
  refine W.bs rfl (W.bs (by rw [show Int.toNat ((w0.length : Int) + 1 + (i : Int)) * 1 = w0.length + 1 + i from by omega]; exact ew) ?_)
  simp only [n3, n4] at d
  rw [set_bin hlt] at d
  exact W.ret ⟨rfl, rfl, d⟩
theorem putTup_loop {base pb f at_ : Nat} {fr : Int} {P : Fp} {l : List Tm} {al : Option Addr} {V : Fp} {h0 : AH} (hfr : 0 ≤ fr ∧ fr ≤ 200000) (hl : l.length ≤ 20) (hw : ∀ t ∈ l, Wf f t) (ih : PutR base f) : ∀ (r i : Nat) (h : AH) (w : List Int) (ats : List ByteArray) (a aa : Option Addr) (bad : Bool), i + r = l.length → at_ + 1 + l.length ≤ w.length → w.length + sumL (needT f) (l.drop i) ≤ 100000 → ats.length ≤ 1048576 → Hs base V h0 h [(pb, 166, ptV a w.length fr aa ats.length bad)] [rTSR P f l al, rW base a w, rSt base aa ats] →
  Wp (loopL (B136_1 base) [some (.pointer (at0 pb)), some (.int .i64 (at_ : Int)), some (.slice al l.length l.length), some (.int .i64 (l.length : Int)), some (.int .i64 (i : Int))] h) fun o => ∃ a' aa', o.1 = 5 ∧ o.2.1 = [some (.pointer (at0 pb)), some (.int .i64 (at_ : Int))] ∧ Hs base V h0 o.2.2 [(pb, 166, ptV a' (ptT (pt fr f) (l.drop i) (at_ + 1 + i) (w, ats)).1.1.length fr aa' (ptT (pt fr f) (l.drop i) (at_ + 1 + i) (w, ats)).1.2.length (bad || !(ptT (pt fr f) (l.drop i) (at_ + 1 + i) (w, ats)).2))] [rTSR P f l al, rW base a' (ptT (pt fr f) (l.drop i) (at_ + 1 + i) (w, ats)).1.1, rSt base aa' (ptT (pt fr f) (l.drop i) (at_ + 1 + i) (w, ats)).1.2] := by
 intro r
 induction r with
 | zero =>
  intro i h w ats a aa bad hi hat hn hal d
  suffices w1 : Wp (B136_1 base [some (.pointer (at0 pb)), some (.int .i64 (at_ : Int)), some (.slice al l.length l.length), some (.int .i64 (l.length : Int)), some (.int .i64 (i : Int))] h) fun o => o = (5, [some (.pointer (at0 pb)), some (.int .i64 (at_ : Int))], h) by
   obtain ⟨o, e, rfl⟩ := w1
   refine ⟨_, loop_off (by decide) e, a, aa, rfl, rfl, ?_⟩
   rw [List.drop_of_length_le (by omega), ptT]
   simpa using d
  rw [B136_1_eq]
  exact W.ifF (by simp; omega) (W.ret rfl)
 | succ r ihr =>
  intro i h w ats a aa bad hi hat hn hal d
  have hlt : i < l.length := by omega
  have hwi := hw l[i] (List.getElem_mem _)
  have ed : l.drop i = l[i] :: l.drop (i + 1) := List.drop_eq_getElem_cons hlt
  have hn2 := hn
  rw [ed, sumL] at hn2
  obtain ⟨pk1, pk2⟩ := pt_ok (fr := fr) f l[i] hwi (w, ats)
  simp only at pk1 pk2
  generalize hq : pt fr f (w, ats) l[i] = q at pk1 pk2
  suffices w1 : Wp (B136_1 base [some (.pointer (at0 pb)), some (.int .i64 (at_ : Int)), some (.slice al l.length l.length), some (.int .i64 (l.length : Int)), some (.int .i64 (i : Int))] h) fun o => ∃ a' aa', o.1 = 0 ∧ o.2.1 = [some (.pointer (at0 pb)), some (.int .i64 (at_ : Int)), some (.slice al l.length l.length), some (.int .i64 (l.length : Int)), some (.int .i64 ((i + 1 : Nat) : Int))] ∧ Hs base V h0 o.2.2 [(pb, 166, ptV a' (q.1.1.set (at_ + 1 + i) q.2.1).length fr aa' q.1.2.length (bad || !q.2.2))] [rTSR P f l al, rW base a' (q.1.1.set (at_ + 1 + i) q.2.1), rSt base aa' q.1.2] by
   obtain ⟨⟨o1, o2, h'⟩, e, a', aa', y1, y2, d'⟩ := w1
   simp only at y1 y2 d'
   subst y1; subst y2
   obtain ⟨o, eo, a2, aa2, z1, z2, z3⟩ := ihr (i + 1) h' _ _ a' aa' _ (by omega) (by rw [List.length_set]; omega) (by rw [List.length_set]; omega) (by omega) d'
   refine ⟨o, loop_on e eo, a2, aa2, z1, z2, ?_⟩
   rw [ed, ptT, hq]
   simp only [Bool.not_and]
   rw [← Bool.or_assoc, show at_ + 1 + i + 1 = at_ + 1 + (i + 1) from by omega]
   exact z3
  rw [B136_1_eq]
  refine W.ifT (decide_eq_true (by omega)) (W.ifT (by omega) ?_)
  cases f with
  | zero => obtain ⟨d', x, _, hx⟩ := hwi; rw [lk] at hx; omega
  | succ f =>
   refine W.t4 (d.rs (i := 0) rfl : TsR h P (f + 1) l al) hlt fun k n s a2 l2 el hm _ hsz hln => ?_
   rw [← el] at hm
   have d := d.also (i := 0) rfl rfl (fun y => TmR y P (f + 1) l[i] (termV k n s a2 l2.length)) hm (fun U y y' ky hs x => TmR.keep ky hs _ _ _ x)
   ((try simp only [n1, n2, n3, n4, n5, n6] at d); (with_reducible repeat first | refine W.a1 d ?_ | refine W.a2 ?_ | refine W.a3 ?_ | refine W.bo ?_ | refine W.a5 d fun hw d lw kw => ?_ | refine W.a6 d ?_ | refine W.a7 ?_ | refine W.a8 ?_); (refine W.nD d fun h2 d _ kh2 => ?_); (with_reducible repeat first | refine W.a1 d ?_ | refine W.a2 ?_ | refine W.a3 ?_ | refine W.bo ?_ | refine W.a5 d fun hw d lw kw => ?_ | refine W.a6 d ?_ | refine W.a7 ?_ | refine W.a8 ?_))
   have d := (d.front (Del.at (i := 1) rfl)).sw4
   simp only [n5, n6] at d
   have d1 := Hs.part (D1 := [_]) (R1 := [_, _, _]) d
   refine W.wb (ih pb fr P l[i] _ w ats a aa bad _ _ _ hwi hfr (by omega) hal d1) ?_
   rintro ⟨u, h4⟩ ⟨a', aa', y1, d2⟩
   simp only at y1 d2
   subst y1
   have d := (Hs.back (D1 := [_]) (R1 := [_, _, _]) d d2 (imP rfl rfl)).sw4
   rw [hq] at d ⊢
   have d := (d.takeD 1).takeR 3
   clear d1 d2
   ((try simp only [n1, n2, n3, n4, n5, n6] at d); (with_reducible repeat first | refine W.a1 d ?_ | refine W.a2 ?_ | refine W.a3 ?_ | refine W.bo ?_ | refine W.a5 d fun hw d lw kw => ?_ | refine W.a6 d ?_ | refine W.a7 ?_ | refine W.a8 ?_))
   rw [w64i (n := (at_ : Int) + 1) (by omega) (by omega), w64i (n := (at_ : Int) + 1 + (i : Int)) (by omega) (by omega), w64i (n := (i : Int) + 1) (by omega) (by omega)]
   refine W.ifT ⟨by omega, by omega⟩ ?_
   obtain ⟨ad, h5, ea, ew, d, _⟩ := d.setW (i := 1) (j := at_ + 1 + i) (v := q.2.1) rfl (by omega)
   subst ea
   refine W.bs rfl (W.bs (by rw [show Int.toNat ((at_ : Int) + 1 + (i : Int)) * 1 = at_ + 1 + i from by omega]; exact ew) ?_)
   refine W.ret ⟨some ad, aa', rfl, rfl, ?_⟩
   rw [List.length_set]
   exact d
end Go.Proofs.Ytjmkbglnjklbcaa.Am
set_option linter.unusedSimpArgs false
set_option linter.unusedVariables false
namespace Go.Proofs.Ytjmkbglnjklbcaa.Am
open Go Go.RowKit
theorem putList_loop {base pb f at_ : Nat} {fr : Int} {P : Fp} {l : List Tm} {al : Option Addr} {V : Fp} {h0 : AH} (hfr : 0 ≤ fr ∧ fr ≤ 200000) (hl : l.length ≤ 20) (hw : ∀ t ∈ l, Wf f t) (ih : PutR base f) : ∀ (r i : Nat) (h : AH) (w : List Int) (ats : List ByteArray) (a aa : Option Addr) (bad : Bool), i + r = l.length → at_ + 2 * l.length ≤ w.length → w.length + sumL (needT f) (l.drop i) ≤ 100000 → ats.length ≤ 1048576 → Hs base V h0 h [(pb, 166, ptV a w.length fr aa ats.length bad)] [rTSR P f l al, rW base a w, rSt base aa ats] →
  Wp (loopL (B177_0 base) [some (.pointer (at0 pb)), some (.slice al l.length l.length), some (.int .i64 (at_ : Int)), some (.slice al l.length l.length), some (.int .i64 (l.length : Int)), some (.int .i64 (i : Int))] h) fun o => ∃ a' aa', o.1 = 2 ∧ o.2.1 = [some (.pointer (at0 pb)), some (.slice al l.length l.length), some (.int .i64 (at_ : Int))] ∧ Hs base V h0 o.2.2 [(pb, 166, ptV a' (ptL (pt fr f) fr (l.drop i) (at_ + 2 * i) (w, ats)).1.1.length fr aa' (ptL (pt fr f) fr (l.drop i) (at_ + 2 * i) (w, ats)).1.2.length (bad || !(ptL (pt fr f) fr (l.drop i) (at_ + 2 * i) (w, ats)).2))] [rTSR P f l al, rW base a' (ptL (pt fr f) fr (l.drop i) (at_ + 2 * i) (w, ats)).1.1, rSt base aa' (ptL (pt fr f) fr (l.drop i) (at_ + 2 * i) (w, ats)).1.2] := by
 intro r
 induction r with
 | zero =>
  intro i h w ats a aa bad hi hat hn hal d
  suffices w1 : Wp (B177_0 base [some (.pointer (at0 pb)), some (.slice al l.length l.length), some (.int .i64 (at_ : Int)), some (.slice al l.length l.length), some (.int .i64 (l.length : Int)), some (.int .i64 (i : Int))] h) fun o => o = (2, [some (.pointer (at0 pb)), some (.slice al l.length l.length), some (.int .i64 (at_ : Int))], h) by
   obtain ⟨o, e, rfl⟩ := w1
   refine ⟨_, loop_off (by decide) e, a, aa, rfl, rfl, ?_⟩
   rw [List.drop_of_length_le (by omega), ptL]
   simpa using d
  rw [B177_0_eq]
  exact W.ifF (by simp; omega) (W.ret rfl)
 | succ r ihr =>
  intro i h w ats a aa bad hi hat hn hal d
  have hlt : i < l.length := by omega
  have hwi := hw l[i] (List.getElem_mem _)
  have ed : l.drop i = l[i] :: l.drop (i + 1) := List.drop_eq_getElem_cons hlt
  have hn2 := hn
  rw [ed, sumL] at hn2
  obtain ⟨pk1, pk2⟩ := pt_ok (fr := fr) f l[i] hwi (w, ats)
  simp only at pk1 pk2
  generalize hq : pt fr f (w, ats) l[i] = q at pk1 pk2
  suffices w1 : Wp (B177_0 base [some (.pointer (at0 pb)), some (.slice al l.length l.length), some (.int .i64 (at_ : Int)), some (.slice al l.length l.length), some (.int .i64 (l.length : Int)), some (.int .i64 (i : Int))] h) fun o => ∃ a' aa', o.1 = 0 ∧ o.2.1 = [some (.pointer (at0 pb)), some (.slice al l.length l.length), some (.int .i64 (at_ : Int)), some (.slice al l.length l.length), some (.int .i64 (l.length : Int)), some (.int .i64 ((i + 1 : Nat) : Int))] ∧ Hs base V h0 o.2.2 [(pb, 166, ptV a' ((q.1.1.set (at_ + 2 * i) q.2.1).set (at_ + 2 * i + 1) (mkW 5 (fr + (at_ + 2 * i : Nat) + 2))).length fr aa' q.1.2.length (bad || !q.2.2))] [rTSR P f l al, rW base a' ((q.1.1.set (at_ + 2 * i) q.2.1).set (at_ + 2 * i + 1) (mkW 5 (fr + (at_ + 2 * i : Nat) + 2))), rSt base aa' q.1.2] by
   obtain ⟨⟨o1, o2, h'⟩, e, a', aa', y1, y2, d'⟩ := w1
   simp only at y1 y2 d'
   subst y1; subst y2
   obtain ⟨o, eo, a2, aa2, z1, z2, z3⟩ := ihr (i + 1) h' _ _ a' aa' _ (by omega) (by rw [List.length_set, List.length_set]; omega) (by rw [List.length_set, List.length_set]; omega) (by omega) d'
   refine ⟨o, loop_on e eo, a2, aa2, z1, z2, ?_⟩
   rw [ed, ptL, hq]
   simp only [Bool.not_and]
   rw [← Bool.or_assoc, show at_ + 2 * i + 2 = at_ + 2 * (i + 1) from by omega]
   exact z3
  rw [B177_0_eq]
  refine W.ifT (decide_eq_true (by omega)) (W.ifT (by omega) ?_)
  cases f with
  | zero => obtain ⟨d', x, _, hx⟩ := hwi; rw [lk] at hx; omega
  | succ f =>
   refine W.t4 (d.rs (i := 0) rfl : TsR h P (f + 1) l al) hlt fun k n s a2 l2 el hm _ hsz hln => ?_
   rw [← el] at hm
   have d := d.also (i := 0) rfl rfl (fun y => TmR y P (f + 1) l[i] (termV k n s a2 l2.length)) hm (fun U y y' ky hs x => TmR.keep ky hs _ _ _ x)
   ((try simp only [n1, n2, n3, n4, n5, n6] at d); (with_reducible repeat first | refine W.a1 d ?_ | refine W.a2 ?_ | refine W.a3 ?_ | refine W.bo ?_ | refine W.a5 d fun hw d lw kw => ?_ | refine W.a6 d ?_ | refine W.a7 ?_ | refine W.a8 ?_); (refine W.nD d fun h2 d _ kh2 => ?_); (with_reducible repeat first | refine W.a1 d ?_ | refine W.a2 ?_ | refine W.a3 ?_ | refine W.bo ?_ | refine W.a5 d fun hw d lw kw => ?_ | refine W.a6 d ?_ | refine W.a7 ?_ | refine W.a8 ?_))
   have d := (d.front (Del.at (i := 1) rfl)).sw4
   simp only [n5, n6] at d
   have d1 := Hs.part (D1 := [_]) (R1 := [_, _, _]) d
   refine W.wb (ih pb fr P l[i] _ w ats a aa bad _ _ _ hwi hfr (by omega) hal d1) ?_
   rintro ⟨u, h4⟩ ⟨a', aa', y1, d2⟩
   simp only at y1 d2
   subst y1
   have d := (Hs.back (D1 := [_]) (R1 := [_, _, _]) d d2 (imP rfl rfl)).sw4
   rw [hq] at d ⊢
   have d := (d.takeD 1).takeR 3
   clear d1 d2
   ((try simp only [n1, n2, n3, n4, n5, n6] at d); (with_reducible repeat first | refine W.a1 d ?_ | refine W.a2 ?_ | refine W.a3 ?_ | refine W.bo ?_ | refine W.a5 d fun hw d lw kw => ?_ | refine W.a6 d ?_ | refine W.a7 ?_ | refine W.a8 ?_))
   rw [w64i (n := 2 * (i : Int)) (by omega) (by omega), w64i (n := (at_ : Int) + 2 * (i : Int)) (by omega) (by omega), w64i (n := (i : Int) + 1) (by omega) (by omega)]
   refine W.ifT ⟨by omega, by omega⟩ ?_
   obtain ⟨ad, h5, ea, ew, d, _⟩ := d.setW (i := 1) (j := at_ + 2 * i) (v := q.2.1) rfl (by omega)
   subst ea
   refine W.bs rfl (W.bs (by rw [show Int.toNat ((at_ : Int) + 2 * (i : Int)) * 1 = at_ + 2 * i from by omega]; exact ew) ?_)
   ((try simp only [n1, n2, n3, n4, n5, n6] at d); (with_reducible repeat first | refine W.a1 d ?_ | refine W.a2 ?_ | refine W.a3 ?_ | refine W.bo ?_ | refine W.a5 d fun hw d lw kw => ?_ | refine W.a6 d ?_ | refine W.a7 ?_ | refine W.a8 ?_))
   rw [w64i (n := fr + (at_ : Int)) (by omega) (by omega), w64i (n := fr + (at_ : Int) + 2 * (i : Int)) (by omega) (by omega), w64i (n := fr + (at_ : Int) + 2 * (i : Int) + 2) (by omega) (by omega)]
   refine W.bs implMk_run ?_
   ((try simp only [n1, n2, n3, n4, n5, n6] at d); (with_reducible repeat first | refine W.a1 d ?_ | refine W.a2 ?_ | refine W.a3 ?_ | refine W.bo ?_ | refine W.a5 d fun hw d lw kw => ?_ | refine W.a6 d ?_ | refine W.a7 ?_ | refine W.a8 ?_))
   rw [w64i (n := (at_ : Int) + 2 * (i : Int) + 1) (by omega) (by omega)]
   refine W.ifT ⟨by omega, by omega⟩ ?_
   obtain ⟨ad2, h6, ea2, ew2, d, _⟩ := d.setW (i := 1) (j := at_ + 2 * i + 1) (v := mkW 5 (fr + (at_ : Int) + 2 * (i : Int) + 2)) rfl (by rw [List.length_set]; omega)
   injection ea2 with ea2
   subst ea2
   refine W.bs rfl (W.bs (by rw [show Int.toNat ((at_ : Int) + 2 * (i : Int) + 1) * 1 = at_ + 2 * i + 1 from by omega]; exact ew2) ?_)
   refine W.ret ⟨some ad, aa', rfl, rfl, ?_⟩
   rw [List.length_set, List.length_set, show fr + ((at_ + 2 * i : Nat) : Int) + 2 = fr + (at_ : Int) + 2 * (i : Int) + 2 from by omega]
   exact d
theorem pt_list {fr : Int} {f : Nat} {p : PS} {l : List Tm} {k n : Int} {s : ByteArray} (hk : k ≠ 1 ∧ k ≠ 2 ∧ k ≠ 3 ∧ k ≠ 6 ∧ k ≠ 4) : pt fr (f + 1) p (.mk k n s l) = if l = [] then (p, 3, true) else (((ptL (pt fr f) fr l p.1.length (p.1 ++ List.replicate (2 * l.length) 0, p.2)).1.1.set (p.1.length + 2 * l.length - 1) 3, (ptL (pt fr f) fr l p.1.length (p.1 ++ List.replicate (2 * l.length) 0, p.2)).1.2), mkW 5 (fr + p.1.length), (ptL (pt fr f) fr l p.1.length (p.1 ++ List.replicate (2 * l.length) 0, p.2)).2) := by
 obtain ⟨a, b, c, d, e⟩ := hk
 rw [pt, if_neg a, if_neg b, if_neg c, if_neg d, if_neg e]
theorem putList_run {base pb f : Nat} {fr : Int} {P : Fp} {l : List Tm} {al : Option Addr} {V : Fp} {h0 h : AH} {w : List Int} {ats : List ByteArray} {a aa : Option Addr} {bad : Bool} (hfr : 0 ≤ fr ∧ fr ≤ 200000) (hl : l.length ≤ 20) (hw : ∀ t ∈ l, Wf f t) (ih : PutR base f) (hn : w.length + 2 * l.length + sumL (needT f) l ≤ 100000) (hal : ats.length ≤ 1048576) (d : Hs base V h0 h [(pb, 166, ptV a w.length fr aa ats.length bad)] [rTSR P f l al, rW base a w, rSt base aa ats]) :
  Wp (run (Et base) 177 [.pointer (at0 pb), .slice al l.length l.length] h) fun o => ∃ a' aa', o.1 = .int .i64 (pt fr (f + 1) (w, ats) (.mk 5 0 ⟨#[]⟩ l)).2.1 ∧ Hs base V h0 o.2 [(pb, 166, ptV a' (pt fr (f + 1) (w, ats) (.mk 5 0 ⟨#[]⟩ l)).1.1.length fr aa' (pt fr (f + 1) (w, ats) (.mk 5 0 ⟨#[]⟩ l)).1.2.length (bad || !(pt fr (f + 1) (w, ats) (.mk 5 0 ⟨#[]⟩ l)).2.2))] [rTSR P f l al, rW base a' (pt fr (f + 1) (w, ats) (.mk 5 0 ⟨#[]⟩ l)).1.1, rSt base aa' (pt fr (f + 1) (w, ats) (.mk 5 0 ⟨#[]⟩ l)).1.2] := by
 refine W.of (fun r hx => Am.r177 hx) ?_
 rw [pt_list (by decide)]
 by_cases cl : l = []
 ·rw [if_pos cl]
  refine W.ifT (by rw [cl]; rfl) ?_
  refine W.bs implMk_run ?_
  ((try simp only [n1, n2, n3, n4, n5, n6] at d); (with_reducible repeat first | refine W.a1 d ?_ | refine W.a2 ?_ | refine W.a3 ?_ | refine W.bo ?_ | refine W.a5 d fun hw d lw kw => ?_ | refine W.a6 d ?_ | refine W.a7 ?_ | refine W.a8 ?_))
  refine W.ret ⟨a, aa, rfl, ?_⟩
  simpa using d
 rw [if_neg cl]
 have hpos : 0 < l.length := List.length_pos_iff.2 cl
 refine W.ifF (by simp; omega) ?_
 rw [w64i (n := 2 * (l.length : Int)) (by omega) (by omega), show 2 * (l.length : Int) = ((2 * l.length : Nat) : Int) from by omega]
 refine W.wb (room_run (base := base) (n := 2 * l.length) (by omega) d) ?_
 rintro ⟨u, h1⟩ ⟨a1, y1, d⟩
 simp only at y1 d
 subst y1
 ((try simp only [n1, n2, n3, n4, n5, n6] at d); (with_reducible repeat first | refine W.a1 d ?_ | refine W.a2 ?_ | refine W.a3 ?_ | refine W.bo ?_ | refine W.a5 d fun hw d lw kw => ?_ | refine W.a6 d ?_ | refine W.a7 ?_ | refine W.a8 ?_))
 have hlen : (w ++ List.replicate (2 * l.length) 0).length = w.length + 2 * l.length := by simp
 refine W.wb (putList_loop (base := base) (at_ := w.length) hfr hl hw ih l.length 0 h1 _ ats a1 aa bad (by omega) (by omega) (by rw [List.drop_zero, hlen]; omega) hal d) ?_
 rintro ⟨o1, o2, h2⟩ ⟨a2, aa2, y1, y2, d⟩
 simp only at y1 y2 d
 subst y1; subst y2
 refine W.ifT rfl ?_
 rw [List.drop_zero, Nat.mul_zero, Nat.add_zero] at d
 have hz := ptL_len (g := pt fr f) (fr := fr) (nd := needT f) l w.length (w ++ List.replicate (2 * l.length) 0, ats) (fun t ht => pt_ok f t (hw t ht))
 simp only [hlen] at hz
 generalize ptL (pt fr f) fr l w.length (w ++ List.replicate (2 * l.length) 0, ats) = z at d hz
 ((try simp only [n1, n2, n3, n4, n5, n6] at d); (with_reducible repeat first | refine W.a1 d ?_ | refine W.a2 ?_ | refine W.a3 ?_ | refine W.bo ?_ | refine W.a5 d fun hw d lw kw => ?_ | refine W.a6 d ?_ | refine W.a7 ?_ | refine W.a8 ?_))
 refine W.bs implMk_run ?_
 ((try simp only [n1, n2, n3, n4, n5, n6] at d); (with_reducible repeat first | refine W.a1 d ?_ | refine W.a2 ?_ | refine W.a3 ?_ | refine W.bo ?_ | refine W.a5 d fun hw d lw kw => ?_ | refine W.a6 d ?_ | refine W.a7 ?_ | refine W.a8 ?_))
 rw [w64i (n := 2 * (l.length : Int)) (by omega) (by omega), w64i (n := (w.length : Int) + 2 * (l.length : Int)) (by omega) (by omega), w64i (n := (w.length : Int) + 2 * (l.length : Int) - 1) (by omega) (by omega)]
 refine W.ifT ⟨by omega, by omega⟩ ?_
 obtain ⟨ad, h5, ea, ew, d, _⟩ := d.setW (i := 1) (j := w.length + 2 * l.length - 1) (v := mkW 3 0) rfl (by omega)
 subst ea
 refine W.bs rfl (W.bs (by rw [show Int.toNat ((w.length : Int) + 2 * (l.length : Int) - 1) * 1 = w.length + 2 * l.length - 1 from by omega]; exact ew) ?_)
 simp only [n3, n4] at d
 ((try simp only [n1, n2, n3, n4, n5, n6] at d); (with_reducible repeat first | refine W.a1 d ?_ | refine W.a2 ?_ | refine W.a3 ?_ | refine W.bo ?_ | refine W.a5 d fun hw d lw kw => ?_ | refine W.a6 d ?_ | refine W.a7 ?_ | refine W.a8 ?_))
 rw [w64i (n := fr + (w.length : Int)) (by omega) (by omega)]
 refine W.bs implMk_run ?_
 ((try simp only [n1, n2, n3, n4, n5, n6] at d); (with_reducible repeat first | refine W.a1 d ?_ | refine W.a2 ?_ | refine W.a3 ?_ | refine W.bo ?_ | refine W.a5 d fun hw d lw kw => ?_ | refine W.a6 d ?_ | refine W.a7 ?_ | refine W.a8 ?_))
 refine W.ret ⟨some ad, aa2, rfl, ?_⟩
 rw [show mkW 3 0 = 3 from rfl] at d
 rw [List.length_set]
 exact d
end Go.Proofs.Ytjmkbglnjklbcaa.Am
set_option linter.unusedSimpArgs false
set_option linter.unusedVariables false
namespace Go.Proofs.Ytjmkbglnjklbcaa.Am
open Go Go.RowKit
theorem Hs.pk5 {base : Nat} {V : Fp} {h0 h : AH} {D : Ds} {x y z c e : Rs} (d : Hs base V h0 h D [x, y, z, c, e]) : Hs base V h0 h D [x, y, e] := by
 have d := (d.frontR (Del.at (i := 4) rfl)).takeR 3
 have d := d.frontR (Del.at (i := 1) rfl)
 have d := d.frontR (Del.at (i := 2) rfl)
 exact d.frontR (Del.at (i := 1) rfl)
theorem set_first {w B : List Int} {c : Int} {m : Nat} (hB : B.length = m) : (w ++ List.replicate (1 + m) 0).set w.length c = w ++ c :: (B.take 0 ++ List.replicate (B.length - 0) 0) := by
 rw [Nat.add_comm, List.replicate_succ, List.set_append_right _ _ (Nat.le_refl _), Nat.sub_self, List.set_cons_zero]
 simp [hB]
theorem set_first' {w : List Int} {n : Nat} {c : Int} : (w ++ List.replicate (1 + n) 0).set w.length c = w ++ c :: List.replicate n 0 := by
 rw [Nat.add_comm, List.replicate_succ, List.set_append_right _ _ (Nat.le_refl _), Nat.sub_self, List.set_cons_zero]
theorem neg_dec (z : Int) : decide (z < 0) = !decide (z ≥ 0) := by
 by_cases h : z < 0
 ·rw [decide_eq_true h, decide_eq_false (by omega)]; rfl
 ·rw [decide_eq_false h, decide_eq_true (by omega)]; rfl
theorem put_succ {base f : Nat} (ih : PutR base f) : PutR base (f + 1) := by
 intro pb fr P t cs w ats a aa bad V h0 h hw hfr hn hal d
 obtain ⟨k, n, s, l⟩ := t
 obtain ⟨hsh, hch⟩ := hw.open
 obtain ⟨ks, k0, k1, k3, k4, k5, k6⟩ := sh_kinds hsh
 have hm : TmR h P (f + 1) (.mk k n s l) cs := d.rs (i := 0) rfl
 obtain ⟨al, rfl, hts, hsz, hln⟩ := hm.parts
 have hl20 : l.length ≤ 20 := by
  by_cases c4 : k = 4
  ·have := k4 c4; omega
  ·by_cases c5 : k = 5
   ·exact k5 c5
   ·rw [k0 c4 c5]; omega
 rw [needT] at hn
 have d := d.also (i := 0) rfl rfl (fun y => TsR y P f l al) hts (fun U y y' ky hs x => x.keep ky hs)
 simp only [n5, n6] at d
 refine W.of (fun r hx => Am.r136 hx) ?_
 ((try simp only [n1, n2, n3, n4, n5, n6] at d); (with_reducible repeat first | refine W.a1 d ?_ | refine W.a2 ?_ | refine W.a3 ?_ | refine W.bo ?_ | refine W.a5 d fun hw d lw kw => ?_ | refine W.a6 d ?_ | refine W.a7 ?_ | refine W.a8 ?_); (refine W.nD d fun h1 d _ kh1 => ?_); (with_reducible repeat first | refine W.a1 d ?_ | refine W.a2 ?_ | refine W.a3 ?_ | refine W.bo ?_ | refine W.a5 d fun hw d lw kw => ?_ | refine W.a6 d ?_ | refine W.a7 ?_ | refine W.a8 ?_))
 have d := d.front (Del.at (i := 1) rfl)
 simp only [n5, n6] at d
 refine W.ite (fun c => ?_) (fun c => ?_)
 ·have c : k = 1 := by simpa using c
  have := k1 c
  rw [show pt fr (f + 1) (w, ats) (.mk k n s l) = ((w, ats), mkW 0 (n + 1000000), true) from by rw [pt, if_pos c]]
  ((try simp only [n1, n2, n3, n4, n5, n6] at d); (with_reducible repeat first | refine W.a1 d ?_ | refine W.a2 ?_ | refine W.a3 ?_ | refine W.bo ?_ | refine W.a5 d fun hw d lw kw => ?_ | refine W.a6 d ?_ | refine W.a7 ?_ | refine W.a8 ?_))
  rw [w64i (n := n + 1000000) (by omega) (by omega)]
  refine W.bs implMk_run ?_
  ((try simp only [n1, n2, n3, n4, n5, n6] at d); (with_reducible repeat first | refine W.a1 d ?_ | refine W.a2 ?_ | refine W.a3 ?_ | refine W.bo ?_ | refine W.a5 d fun hw d lw kw => ?_ | refine W.a6 d ?_ | refine W.a7 ?_ | refine W.a8 ?_))
  refine W.ret ⟨a, aa, rfl, ?_⟩
  simpa using (d.takeD 1).takeR 3
 have c1 : ¬ k = 1 := by simpa using c
 refine W.ite (fun c => ?_) (fun c => ?_)
 ·have c : k = 2 := by simpa using c
  rw [show pt fr (f + 1) (w, ats) (.mk k n s l) = ((w, (addA ats s).1), mkW 1 (addA ats s).2, decide ((addA ats s).2 ≥ 0)) from by rw [pt, if_neg c1, if_pos c]]
  have hl := addA_len ats s
  obtain ⟨a2, h2, e2, o2, kk, f2⟩ := implAdd_run (base := base) h1 ats aa s hal hsz (d.rs (i := 2) rfl : Own base 9 h1 aa (stV ats)).sl (d.rlt (i := 2) rfl) d.ge
  ((try simp only [n1, n2, n3, n4, n5, n6] at d); (with_reducible repeat first | refine W.a1 d ?_ | refine W.a2 ?_ | refine W.a3 ?_ | refine W.bo ?_ | refine W.a5 d fun hw d lw kw => ?_ | refine W.a6 d ?_ | refine W.a7 ?_ | refine W.a8 ?_))
  refine W.bs e2 ?_
  have d := d.call kk (blk a2) (fun y => Own base 9 y a2 (stV (addA ats s).1)) o2 (fun U y y' ky hs x => x.keep ky hs) (fun b hb => ⟨f2 b hb, (o2.lt hb).2⟩)
  ((try simp only [n1, n2, n3, n4, n5, n6] at d); (with_reducible repeat first | refine W.a1 d ?_ | refine W.a2 ?_ | refine W.a3 ?_ | refine W.bo ?_ | refine W.a5 d fun hw d lw kw => ?_ | refine W.a6 d ?_ | refine W.a7 ?_ | refine W.a8 ?_))
  have d := d.pk5
  refine W.joinP (fun q => q.1 = [some (.int .i64 (addA ats s).2)] ∧ Hs base V h0 q.2 [(pb, 166, ptV a w.length fr a2 (addA ats s).1.length (bad || decide ((addA ats s).2 < 0)))] [rTR P (f + 1) (.mk k n s l) (termV k n s al l.length), rW base a w, rSt base a2 (addA ats s).1]) ?_ ?_
  ·((try simp only [n1, n2, n3, n4, n5, n6] at d); (with_reducible repeat first | refine W.a1 d ?_ | refine W.a2 ?_ | refine W.a3 ?_ | refine W.bo ?_ | refine W.a5 d fun hw d lw kw => ?_ | refine W.a6 d ?_ | refine W.a7 ?_ | refine W.a8 ?_))
   refine W.ite (fun cb => ?_) (fun cb => ?_)
   ·have cb : bad = true := cb
    ((try simp only [n1, n2, n3, n4, n5, n6] at d); (with_reducible repeat first | refine W.a1 d ?_ | refine W.a2 ?_ | refine W.a3 ?_ | refine W.bo ?_ | refine W.a5 d fun hw d lw kw => ?_ | refine W.a6 d ?_ | refine W.a7 ?_ | refine W.a8 ?_))
    refine W.inl ⟨rfl, ?_⟩
    have e : (bad || decide ((addA ats s).2 < 0)) = true := by rw [cb]; rfl
    rw [e]
    exact d.takeD 1
   ·have cb : bad = false := by simpa using cb
    ((try simp only [n1, n2, n3, n4, n5, n6] at d); (with_reducible repeat first | refine W.a1 d ?_ | refine W.a2 ?_ | refine W.a3 ?_ | refine W.bo ?_ | refine W.a5 d fun hw d lw kw => ?_ | refine W.a6 d ?_ | refine W.a7 ?_ | refine W.a8 ?_))
    refine W.inl ⟨rfl, ?_⟩
    rw [cb, Bool.false_or]
    exact d.takeD 1
  rintro ⟨q1, q2⟩ ⟨y1, d⟩
  simp only at y1 d
  subst y1
  ((try simp only [n1, n2, n3, n4, n5, n6] at d); (with_reducible repeat first | refine W.a1 d ?_ | refine W.a2 ?_ | refine W.a3 ?_ | refine W.bo ?_ | refine W.a5 d fun hw d lw kw => ?_ | refine W.a6 d ?_ | refine W.a7 ?_ | refine W.a8 ?_))
  refine W.bs implMk_run ?_
  ((try simp only [n1, n2, n3, n4, n5, n6] at d); (with_reducible repeat first | refine W.a1 d ?_ | refine W.a2 ?_ | refine W.a3 ?_ | refine W.bo ?_ | refine W.a5 d fun hw d lw kw => ?_ | refine W.a6 d ?_ | refine W.a7 ?_ | refine W.a8 ?_))
  refine W.ret ⟨a, a2, rfl, ?_⟩
  rw [neg_dec] at d
  exact d
 have c2 : ¬ k = 2 := by simpa using c
 refine W.ite (fun c => ?_) (fun c => ?_)
 ·have c : k = 3 := by simpa using c
  rw [show pt fr (f + 1) (w, ats) (.mk k n s l) = ((w, ats), mkW 2 n, true) from by rw [pt, if_neg c1, if_neg c2, if_pos c]]
  ((try simp only [n1, n2, n3, n4, n5, n6] at d); (with_reducible repeat first | refine W.a1 d ?_ | refine W.a2 ?_ | refine W.a3 ?_ | refine W.bo ?_ | refine W.a5 d fun hw d lw kw => ?_ | refine W.a6 d ?_ | refine W.a7 ?_ | refine W.a8 ?_))
  refine W.bs implMk_run ?_
  ((try simp only [n1, n2, n3, n4, n5, n6] at d); (with_reducible repeat first | refine W.a1 d ?_ | refine W.a2 ?_ | refine W.a3 ?_ | refine W.bo ?_ | refine W.a5 d fun hw d lw kw => ?_ | refine W.a6 d ?_ | refine W.a7 ?_ | refine W.a8 ?_))
  refine W.ret ⟨a, aa, rfl, ?_⟩
  simpa using (d.takeD 1).takeR 3
 have c3 : ¬ k = 3 := by simpa using c
 refine W.ite (fun c => ?_) (fun c => ?_)
 ·have c : k = 6 := by simpa using c
  have c4 : k ≠ 4 := by omega
  have c5 : k ≠ 5 := by omega
  have hs40 := k6 c
  have hbl := bsL_len s
  rw [show pt fr (f + 1) (w, ats) (.mk k n s l) = ((w ++ (s.size : Int) :: bsL s, ats), mkW 6 (fr + w.length), true) from by rw [pt, if_neg c1, if_neg c2, if_neg c3, if_pos c]]
  rw [show ndN k s l.length = 1 + s.size from by unfold ndN; rw [if_neg c4, if_neg c5, if_pos c]] at hn
  ((try simp only [n1, n2, n3, n4, n5, n6] at d); (with_reducible repeat first | refine W.a1 d ?_ | refine W.a2 ?_ | refine W.a3 ?_ | refine W.bo ?_ | refine W.a5 d fun hw d lw kw => ?_ | refine W.a6 d ?_ | refine W.a7 ?_ | refine W.a8 ?_))
  rw [w64i (n := 1 + (s.size : Int)) (by omega) (by omega), show 1 + (s.size : Int) = ((1 + s.size : Nat) : Int) from by omega]
  have d := d.takeR 3
  refine W.wb (room_run (base := base) (n := 1 + s.size) (by omega) d) ?_
  rintro ⟨u, h2⟩ ⟨a1, y1, d⟩
  simp only at y1 d
  subst y1
  have hlen : (w ++ List.replicate (1 + s.size) 0).length = w.length + 1 + s.size := by simp; omega
  rw [hlen] at d
  ((try simp only [n1, n2, n3, n4, n5, n6] at d); (with_reducible repeat first | refine W.a1 d ?_ | refine W.a2 ?_ | refine W.a3 ?_ | refine W.bo ?_ | refine W.a5 d fun hw d lw kw => ?_ | refine W.a6 d ?_ | refine W.a7 ?_ | refine W.a8 ?_))
  obtain ⟨ad, h3, ea, ew, d, _⟩ := d.setW (i := 1) (j := w.length) (v := (s.size : Int)) rfl (by omega)
  subst ea
  refine W.bs rfl (W.bs (by rw [Int.toNat_natCast, Nat.mul_one]; exact ew) ?_)
  rw [set_first hbl] at d
  refine W.wb (putBin_loop (base := base) hs40 (by omega) s.size 0 h3 (some ad) (by omega) d) ?_
  rintro ⟨o1, o2, h4⟩ ⟨y1, y2, d⟩
  simp only at y1 y2 d
  subst y1; subst y2
  refine W.ifT rfl ?_
  ((try simp only [n1, n2, n3, n4, n5, n6] at d); (with_reducible repeat first | refine W.a1 d ?_ | refine W.a2 ?_ | refine W.a3 ?_ | refine W.bo ?_ | refine W.a5 d fun hw d lw kw => ?_ | refine W.a6 d ?_ | refine W.a7 ?_ | refine W.a8 ?_))
  rw [w64i (n := fr + (w.length : Int)) (by omega) (by omega)]
  refine W.bs implMk_run ?_
  ((try simp only [n1, n2, n3, n4, n5, n6] at d); (with_reducible repeat first | refine W.a1 d ?_ | refine W.a2 ?_ | refine W.a3 ?_ | refine W.bo ?_ | refine W.a5 d fun hw d lw kw => ?_ | refine W.a6 d ?_ | refine W.a7 ?_ | refine W.a8 ?_))
  refine W.ret ⟨some ad, aa, rfl, ?_⟩
  have e : (w ++ (s.size : Int) :: bsL s).length = w.length + 1 + s.size := by simp [hbl]; omega
  simp only [Bool.not_true, Bool.or_false]
  rw [e]
  exact d.takeD 1
 have c6 : ¬ k = 6 := by simpa using c
 refine W.ite (fun c => ?_) (fun c => ?_)
 ·have c : k = 4 := by simpa using c
  have hl8 := k4 c
  rw [show pt fr (f + 1) (w, ats) (.mk k n s l) = ((ptT (pt fr f) l (w.length + 1) (w ++ (l.length : Int) :: List.replicate l.length 0, ats)).1, mkW 4 (fr + w.length), (ptT (pt fr f) l (w.length + 1) (w ++ (l.length : Int) :: List.replicate l.length 0, ats)).2) from by rw [pt, if_neg c1, if_neg c2, if_neg c3, if_neg c6, if_pos c]]
  rw [show ndN k s l.length = 1 + l.length from by unfold ndN; rw [if_pos c]] at hn
  ((try simp only [n1, n2, n3, n4, n5, n6] at d); (with_reducible repeat first | refine W.a1 d ?_ | refine W.a2 ?_ | refine W.a3 ?_ | refine W.bo ?_ | refine W.a5 d fun hw d lw kw => ?_ | refine W.a6 d ?_ | refine W.a7 ?_ | refine W.a8 ?_))
  rw [w64i (n := 1 + (l.length : Int)) (by omega) (by omega), show 1 + (l.length : Int) = ((1 + l.length : Nat) : Int) from by omega]
  have d := d.sw4
  refine W.wb (room_run (base := base) (n := 1 + l.length) (by omega) d) ?_
  rintro ⟨u, h2⟩ ⟨a1, y1, d⟩
  simp only at y1 d
  subst y1
  have hlen : (w ++ List.replicate (1 + l.length) 0).length = w.length + 1 + l.length := by simp; omega
  rw [hlen] at d
  ((try simp only [n1, n2, n3, n4, n5, n6] at d); (with_reducible repeat first | refine W.a1 d ?_ | refine W.a2 ?_ | refine W.a3 ?_ | refine W.bo ?_ | refine W.a5 d fun hw d lw kw => ?_ | refine W.a6 d ?_ | refine W.a7 ?_ | refine W.a8 ?_))
  obtain ⟨ad, h3, ea, ew, d, _⟩ := d.setW (i := 1) (j := w.length) (v := (l.length : Int)) rfl (by omega)
  subst ea
  refine W.bs rfl (W.bs (by rw [Int.toNat_natCast, Nat.mul_one]; exact ew) ?_)
  have hlen2 : (w ++ (l.length : Int) :: List.replicate l.length 0).length = w.length + 1 + l.length := by simp; omega
  rw [set_first', ← hlen2] at d
  ((try simp only [n1, n2, n3, n4, n5, n6] at d); (with_reducible repeat first | refine W.a1 d ?_ | refine W.a2 ?_ | refine W.a3 ?_ | refine W.bo ?_ | refine W.a5 d fun hw d lw kw => ?_ | refine W.a6 d ?_ | refine W.a7 ?_ | refine W.a8 ?_))
  have d1 := Hs.part (D1 := [_]) (R1 := [_, _, _]) d
  refine W.wb (putTup_loop (base := base) (at_ := w.length) hfr hl20 hch ih l.length 0 h3 _ ats (some ad) aa bad (by omega) (by omega) (by rw [List.drop_zero, hlen2]; omega) hal d1) ?_
  rintro ⟨o1, o2, h4⟩ ⟨a4, aa4, y1, y2, d2⟩
  simp only at y1 y2 d2
  subst y1; subst y2
  have d := (Hs.back (D1 := [_]) (R1 := [_, _, _]) d d2 (imP rfl rfl)).sw4
  rw [List.drop_zero, Nat.add_zero] at d
  have d := (d.takeD 1).takeR 3
  clear d1 d2
  refine W.ifT rfl ?_
  ((try simp only [n1, n2, n3, n4, n5, n6] at d); (with_reducible repeat first | refine W.a1 d ?_ | refine W.a2 ?_ | refine W.a3 ?_ | refine W.bo ?_ | refine W.a5 d fun hw d lw kw => ?_ | refine W.a6 d ?_ | refine W.a7 ?_ | refine W.a8 ?_))
  rw [w64i (n := fr + (w.length : Int)) (by omega) (by omega)]
  refine W.bs implMk_run ?_
  ((try simp only [n1, n2, n3, n4, n5, n6] at d); (with_reducible repeat first | refine W.a1 d ?_ | refine W.a2 ?_ | refine W.a3 ?_ | refine W.bo ?_ | refine W.a5 d fun hw d lw kw => ?_ | refine W.a6 d ?_ | refine W.a7 ?_ | refine W.a8 ?_))
  exact W.ret ⟨a4, aa4, rfl, d⟩
 have c4 : ¬ k = 4 := by simpa using c
 have c5 : k = 5 := by omega
 rw [show ndN k s l.length = 2 * l.length from by unfold ndN; rw [if_neg c4, if_pos c5]] at hn
 ((try simp only [n1, n2, n3, n4, n5, n6] at d); (with_reducible repeat first | refine W.a1 d ?_ | refine W.a2 ?_ | refine W.a3 ?_ | refine W.bo ?_ | refine W.a5 d fun hw d lw kw => ?_ | refine W.a6 d ?_ | refine W.a7 ?_ | refine W.a8 ?_))
 have d := d.sw4
 have d1 := Hs.part (D1 := [_]) (R1 := [_, _, _]) d
 refine W.wb (putList_run (base := base) hfr hl20 hch ih (by omega) hal d1) ?_
 rintro ⟨u, h4⟩ ⟨a4, aa4, y1, d2⟩
 simp only at y1 d2
 subst y1
 have d := (Hs.back (D1 := [_]) (R1 := [_, _, _]) d d2 (imP rfl rfl)).sw4
 have d := (d.takeD 1).takeR 3
 clear d1 d2
 rw [pt_list (by decide)] at d ⊢
 rw [pt_list ⟨c1, c2, c3, c6, c4⟩]
 ((try simp only [n1, n2, n3, n4, n5, n6] at d); (with_reducible repeat first | refine W.a1 d ?_ | refine W.a2 ?_ | refine W.a3 ?_ | refine W.bo ?_ | refine W.a5 d fun hw d lw kw => ?_ | refine W.a6 d ?_ | refine W.a7 ?_ | refine W.a8 ?_))
 exact W.ret ⟨a4, aa4, rfl, d⟩
theorem put_run {base : Nat} : ∀ f, PutR base f
 | 0 => fun pb fr P t cs w ats a aa bad V h0 h hw _ _ _ _ => by obtain ⟨d, x, _, hx⟩ := hw; rw [lk] at hx; omega
 | f + 1 => put_succ (put_run f)
end Go.Proofs.Ytjmkbglnjklbcaa.Am
set_option linter.unusedSimpArgs false
set_option linter.unusedVariables false
namespace Go.Proofs.Ytjmkbglnjklbcaa.Am
open Go Go.RowKit
abbrev wsD (wt wb sb : Nat) (a : Option Addr) (n : Nat) (aa : Option Addr) (m : Nat) : Ds := [(wb, wt, [.slice a n n]), (sb, 25, [.slice aa m m])]
def SPutR (base : Nat) (f : Nat) : Prop := ∀ (wt wb sb : Nat) (P : Fp) (t : Tm) (cs : List Value) (w : List Int) (ats : List ByteArray) (a aa : Option Addr) (V : Fp) (h0 h : AH), Wf f t → w.length + needT f t ≤ 100000 → ats.length ≤ 1048576 →
 Hs base V h0 h (wsD wt wb sb a w.length aa ats.length) [rTR P f t cs, rW base a w, rSt base aa ats] →
 Wp (run (Et base) 72 [.pointer (at0 wb), .pointer (at0 sb), .agg cs.toArray] h) fun o => ∃ a' aa', o.1 = .tuple #[.int .i64 (pt 0 f (w, ats) t).2.1, .bool (pt 0 f (w, ats) t).2.2] ∧ Hs base V h0 o.2 (wsD wt wb sb a' (pt 0 f (w, ats) t).1.1.length aa' (pt 0 f (w, ats) t).1.2.length) [rTR P f t cs, rW base a' (pt 0 f (w, ats) t).1.1, rSt base aa' (pt 0 f (w, ats) t).1.2]
theorem Hs.app1W {base i nb n : Nat} {V : Fp} {h0 h : AH} {D : Ds} {R : List Rs} {a : Option Addr} {l : List Int} {v : Int} (d : Hs base V h0 h ((nb, 3, [.int .i64 v]) :: D) R) (ei : R[i]? = some (rW base a l)) (hn : l.length = n) (hl : n + 1 ≤ 1000000) :
  ∃ a' h', Am.app base h 3 1 8 a n (rawAt h (at0 nb) (1 * 1)) 1 = some (.slice a' (n + 1) (n + 1), h') ∧ Hs base V h0 h' ((nb, 3, [.int .i64 v]) :: D) (R.set i (rW base a' (l ++ [v]))) := by
 obtain ⟨a5, h5, e5, d, q5, k5, _⟩ := d.app1O (w := 1) (i := i) (n := n) (bytes := 8) ei (fun b hb => hb) (.head _) rfl (by decide) (by simp [hn]) rfl (by omega) (by omega)
 refine ⟨a5, h5, e5, ?_⟩
 have e : iv .i64 l ++ [Value.int .i64 v] = iv .i64 (l ++ [v]) := by simp [iv]
 rw [e] at d
 exact d
theorem sputBin_loop {base wt wb sb tb : Nat} {x : Rs} {ats : List ByteArray} {aa : Option Addr} {V : Fp} {h0 : AH} {k n : Int} {s : ByteArray} {ta : Option Addr} {m : Nat} {w0 : List Int} (hs : s.size ≤ 40) (hw : w0.length ≤ 100000) : ∀ (r i : Nat) (h : AH) (a : Option Addr), i + r = s.size → Hs base V h0 h (wsD wt wb sb a (w0 ++ (s.size : Int) :: (bsL s).take i).length aa ats.length ++ [(tb, 39, termV k n s ta m)]) [x, rW base a (w0 ++ (s.size : Int) :: (bsL s).take i), rSt base aa ats] →
  Wp (loopL (B72_0 base) [some (.pointer (at0 wb)), some (.pointer (at0 tb)), some (.int .i64 (w0.length : Int)), some (.int .i64 (i : Int))] h) fun o => ∃ a', o.1 = 3 ∧ o.2.1 = [some (.int .i64 (w0.length : Int))] ∧ Hs base V h0 o.2.2 (wsD wt wb sb a' (w0 ++ (s.size : Int) :: bsL s).length aa ats.length) [x, rW base a' (w0 ++ (s.size : Int) :: bsL s), rSt base aa ats] := by
 have hbl := bsL_len s
 intro r
 induction r with
 | zero =>
  intro i h a hi d
  suffices w1 : Wp (B72_0 base [some (.pointer (at0 wb)), some (.pointer (at0 tb)), some (.int .i64 (w0.length : Int)), some (.int .i64 (i : Int))] h) fun o => o = (3, [some (.int .i64 (w0.length : Int))], h) by
   obtain ⟨o, e, rfl⟩ := w1
   refine ⟨_, loop_off (by decide) e, a, rfl, rfl, ?_⟩
   rw [List.take_of_length_le (by omega)] at d
   exact d.takeD 2
  rw [B72_0_eq]
  ((try simp only [n1, n2, n3, n4, n5, n6] at d); (with_reducible repeat first | refine W.a1 d ?_ | refine W.a2 ?_ | refine W.a3 ?_ | refine W.bo ?_ | refine W.a5 d fun hw d lw kw => ?_ | refine W.a6 d ?_ | refine W.a7 ?_ | refine W.a8 ?_))
  exact W.ifF (by simp; omega) (W.ret rfl)
 | succ r ihr =>
  intro i h a hi d
  have hlt : i < (bsL s).length := by omega
  suffices w1 : Wp (B72_0 base [some (.pointer (at0 wb)), some (.pointer (at0 tb)), some (.int .i64 (w0.length : Int)), some (.int .i64 (i : Int))] h) fun o => ∃ a', o.1 = 0 ∧ o.2.1 = [some (.pointer (at0 wb)), some (.pointer (at0 tb)), some (.int .i64 (w0.length : Int)), some (.int .i64 ((i + 1 : Nat) : Int))] ∧ Hs base V h0 o.2.2 (wsD wt wb sb a' (w0 ++ (s.size : Int) :: (bsL s).take (i + 1)).length aa ats.length ++ [(tb, 39, termV k n s ta m)]) [x, rW base a' (w0 ++ (s.size : Int) :: (bsL s).take (i + 1)), rSt base aa ats] by
   obtain ⟨⟨o1, o2, h'⟩, e, a', y1, y2, d'⟩ := w1
   simp only at y1 y2 d'
   subst y1; subst y2
   obtain ⟨o, eo, q⟩ := ihr (i + 1) h' a' (by omega) d'
   exact ⟨o, loop_on e eo, q⟩
  have hv : IntKind.wrap .i64 ((s.data.toList.getD (Int.toNat (i : Int)) 0).toNat : Int) = (bsL s)[i] := by
   have hd : i < s.data.toList.length := by rw [Array.length_toList]; exact Nat.lt_of_lt_of_le hlt (by rw [hbl]; exact Nat.le_refl _)
   have e1 : (bsL s)[i] = ((s.data.toList[i]).toNat : Int) := List.getElem_map _
   rw [Int.toNat_natCast, List.getD_eq_getElem?_getD, List.getElem?_eq_getElem hd, Option.getD_some, e1]
   have := (s.data.toList[i]).toNat_lt
   exact w64i (by omega) (by omega)
  have et : w0 ++ (s.size : Int) :: (bsL s).take (i + 1) = (w0 ++ (s.size : Int) :: (bsL s).take i) ++ [(bsL s)[i]] := by
   rw [List.take_succ_eq_append_getElem hlt, List.append_assoc]
   rfl
  have hlen : (w0 ++ (s.size : Int) :: (bsL s).take i).length ≤ 100100 := by
   simp; omega
  rw [et]
  rw [B72_0_eq]
  generalize hg : w0 ++ (s.size : Int) :: (bsL s).take i = g at d hlen ⊢
  ((try simp only [n1, n2, n3, n4, n5, n6] at d); (with_reducible repeat first | refine W.a1 d ?_ | refine W.a2 ?_ | refine W.a3 ?_ | refine W.bo ?_ | refine W.a5 d fun hw d lw kw => ?_ | refine W.a6 d ?_ | refine W.a7 ?_ | refine W.a8 ?_))
  refine W.ifT (decide_eq_true (by omega)) ?_
  ((try simp only [n1, n2, n3, n4, n5, n6] at d); (with_reducible repeat first | refine W.a1 d ?_ | refine W.a2 ?_ | refine W.a3 ?_ | refine W.bo ?_ | refine W.a5 d fun hw d lw kw => ?_ | refine W.a6 d ?_ | refine W.a7 ?_ | refine W.a8 ?_); (refine W.nD d fun h2 d _ kh2 => ?_); (with_reducible repeat first | refine W.a1 d ?_ | refine W.a2 ?_ | refine W.a3 ?_ | refine W.bo ?_ | refine W.a5 d fun hw d lw kw => ?_ | refine W.a6 d ?_ | refine W.a7 ?_ | refine W.a8 ?_))
  rw [hv] at d
  obtain ⟨a5, h5, e5, d⟩ := d.app1W (i := 1) rfl rfl (by omega)
  refine W.bs e5 ?_
  ((try simp only [n1, n2, n3, n4, n5, n6] at d); (with_reducible repeat first | refine W.a1 d ?_ | refine W.a2 ?_ | refine W.a3 ?_ | refine W.bo ?_ | refine W.a5 d fun hw d lw kw => ?_ | refine W.a6 d ?_ | refine W.a7 ?_ | refine W.a8 ?_))
  rw [w64i (n := (i : Int) + 1) (by omega) (by omega)]
  refine W.ret ⟨a5, rfl, rfl, ?_⟩
  rw [show (g ++ [(bsL s)[i]]).length = g.length + 1 from by simp]
  exact d.tl
theorem sputTup_loop {base wt wb sb tb f at_ : Nat} {P : Fp} {k n : Int} {s : ByteArray} {l : List Tm} {al : Option Addr} {V : Fp} {h0 : AH} (hl : l.length ≤ 20) (hw : ∀ t ∈ l, Wf f t) (ih : SPutR base f) : ∀ (r i : Nat) (h : AH) (w : List Int) (ats : List ByteArray) (a aa : Option Addr) (ok : Bool), i + r = l.length → at_ + 1 + l.length ≤ w.length → w.length + sumL (needT f) (l.drop i) ≤ 100000 → ats.length ≤ 1048576 → Hs base V h0 h (wsD wt wb sb a w.length aa ats.length ++ [(tb, 39, termV k n s al l.length)]) [rTSR P f l al, rW base a w, rSt base aa ats] →
  Wp (loopL (B72_1 base) [some (.pointer (at0 wb)), some (.pointer (at0 sb)), some (.pointer (at0 tb)), some (.int .i64 (at_ : Int)), some (.bool ok), some (.int .i64 (i : Int))] h) fun o => ∃ a' aa', o.1 = 5 ∧ o.2.1 = [some (.int .i64 (at_ : Int)), some (.bool (ok && (ptT (pt 0 f) (l.drop i) (at_ + 1 + i) (w, ats)).2))] ∧ Hs base V h0 o.2.2 (wsD wt wb sb a' (ptT (pt 0 f) (l.drop i) (at_ + 1 + i) (w, ats)).1.1.length aa' (ptT (pt 0 f) (l.drop i) (at_ + 1 + i) (w, ats)).1.2.length) [rTSR P f l al, rW base a' (ptT (pt 0 f) (l.drop i) (at_ + 1 + i) (w, ats)).1.1, rSt base aa' (ptT (pt 0 f) (l.drop i) (at_ + 1 + i) (w, ats)).1.2] := by
 intro r
 induction r with
 | zero =>
  intro i h w ats a aa ok hi hat hn hal d
  suffices w1 : Wp (B72_1 base [some (.pointer (at0 wb)), some (.pointer (at0 sb)), some (.pointer (at0 tb)), some (.int .i64 (at_ : Int)), some (.bool ok), some (.int .i64 (i : Int))] h) fun o => o = (5, [some (.int .i64 (at_ : Int)), some (.bool ok)], h) by
   obtain ⟨o, e, rfl⟩ := w1
   refine ⟨_, loop_off (by decide) e, a, aa, rfl, ?_, ?_⟩
   ·rw [List.drop_of_length_le (by omega), ptT, Bool.and_true]
   ·rw [List.drop_of_length_le (by omega), ptT]
    exact d.takeD 2
  rw [B72_1_eq]
  ((try simp only [n1, n2, n3, n4, n5, n6] at d); (with_reducible repeat first | refine W.a1 d ?_ | refine W.a2 ?_ | refine W.a3 ?_ | refine W.bo ?_ | refine W.a5 d fun hw d lw kw => ?_ | refine W.a6 d ?_ | refine W.a7 ?_ | refine W.a8 ?_))
  exact W.ifF (by simp; omega) (W.ret rfl)
 | succ r ihr =>
  intro i h w ats a aa ok hi hat hn hal d
  have hlt : i < l.length := by omega
  have hwi := hw l[i] (List.getElem_mem _)
  have ed : l.drop i = l[i] :: l.drop (i + 1) := List.drop_eq_getElem_cons hlt
  have hn2 := hn
  rw [ed, sumL] at hn2
  obtain ⟨pk1, pk2⟩ := pt_ok (fr := 0) f l[i] hwi (w, ats)
  simp only at pk1 pk2
  generalize hq : pt 0 f (w, ats) l[i] = q at pk1 pk2
  suffices w1 : Wp (B72_1 base [some (.pointer (at0 wb)), some (.pointer (at0 sb)), some (.pointer (at0 tb)), some (.int .i64 (at_ : Int)), some (.bool ok), some (.int .i64 (i : Int))] h) fun o => ∃ a' aa', o.1 = 0 ∧ o.2.1 = [some (.pointer (at0 wb)), some (.pointer (at0 sb)), some (.pointer (at0 tb)), some (.int .i64 (at_ : Int)), some (.bool (ok && q.2.2)), some (.int .i64 ((i + 1 : Nat) : Int))] ∧ Hs base V h0 o.2.2 (wsD wt wb sb a' (q.1.1.set (at_ + 1 + i) q.2.1).length aa' q.1.2.length ++ [(tb, 39, termV k n s al l.length)]) [rTSR P f l al, rW base a' (q.1.1.set (at_ + 1 + i) q.2.1), rSt base aa' q.1.2] by
   obtain ⟨⟨o1, o2, h'⟩, e, a', aa', y1, y2, d'⟩ := w1
   simp only at y1 y2 d'
   subst y1; subst y2
   obtain ⟨o, eo, a2, aa2, z1, z2, z3⟩ := ihr (i + 1) h' _ _ a' aa' _ (by omega) (by rw [List.length_set]; omega) (by rw [List.length_set]; omega) (by omega) d'
   refine ⟨o, loop_on e eo, a2, aa2, z1, ?_, ?_⟩
   ·rw [z2, ed, ptT, hq]
    simp only
    rw [← Bool.and_assoc, show at_ + 1 + i + 1 = at_ + 1 + (i + 1) from by omega]
   ·rw [ed, ptT, hq]
    simp only
    rw [show at_ + 1 + i + 1 = at_ + 1 + (i + 1) from by omega]
    exact z3
  rw [B72_1_eq]
  ((try simp only [n1, n2, n3, n4, n5, n6] at d); (with_reducible repeat first | refine W.a1 d ?_ | refine W.a2 ?_ | refine W.a3 ?_ | refine W.bo ?_ | refine W.a5 d fun hw d lw kw => ?_ | refine W.a6 d ?_ | refine W.a7 ?_ | refine W.a8 ?_))
  refine W.ifT (decide_eq_true (by omega)) ?_
  cases f with
  | zero => obtain ⟨d', x, _, hx⟩ := hwi; rw [lk] at hx; omega
  | succ f =>
   refine W.joinP (fun z => z.1 = [some (.pointer (at0 wb)), some (.pointer (at0 sb)), some (.pointer (at0 tb)), some (.int .i64 (at_ : Int)), some (.bool (ok && q.2.2)), some (.int .i64 (i : Int))] ∧ ∃ a' aa', Hs base V h0 z.2 (wsD wt wb sb a' (q.1.1.set (at_ + 1 + i) q.2.1).length aa' q.1.2.length ++ [(tb, 39, termV k n s al l.length)]) [rTSR P (f + 1) l al, rW base a' (q.1.1.set (at_ + 1 + i) q.2.1), rSt base aa' q.1.2]) ?_ ?_
   ·((try simp only [n1, n2, n3, n4, n5, n6] at d); (with_reducible repeat first | refine W.a1 d ?_ | refine W.a2 ?_ | refine W.a3 ?_ | refine W.bo ?_ | refine W.a5 d fun hw d lw kw => ?_ | refine W.a6 d ?_ | refine W.a7 ?_ | refine W.a8 ?_))
    refine W.t4 (d.rs (i := 0) rfl : TsR h P (f + 1) l al) hlt fun k2 n2 s2 a2 l2 el hm _ hsz hln => ?_
    rw [← el] at hm
    have d := d.also (i := 0) rfl rfl (fun y => TmR y P (f + 1) l[i] (termV k2 n2 s2 a2 l2.length)) hm (fun U y y' ky hs x => TmR.keep ky hs _ _ _ x)
    ((try simp only [n1, n2, n3, n4, n5, n6] at d); (with_reducible repeat first | refine W.a1 d ?_ | refine W.a2 ?_ | refine W.a3 ?_ | refine W.bo ?_ | refine W.a5 d fun hw d lw kw => ?_ | refine W.a6 d ?_ | refine W.a7 ?_ | refine W.a8 ?_))
    have d := d.sw4
    have d1 := Hs.part (D1 := [_, _]) (R1 := [_, _, _]) d
    refine W.wb (ih wt wb sb P l[i] _ w ats a aa _ _ _ hwi (by omega) hal d1) ?_
    rintro ⟨u, h4⟩ ⟨a', aa', y1, d2⟩
    simp only at y1 d2
    subst y1
    have d := (Hs.back (D1 := [_, _]) (R1 := [_, _, _]) d d2 (imP rfl rfl)).sw4
    rw [hq] at d ⊢
    have d := d.takeR 3
    clear d1 d2
    ((try simp only [n1, n2, n3, n4, n5, n6] at d); (with_reducible repeat first | refine W.a1 d ?_ | refine W.a2 ?_ | refine W.a3 ?_ | refine W.bo ?_ | refine W.a5 d fun hw d lw kw => ?_ | refine W.a6 d ?_ | refine W.a7 ?_ | refine W.a8 ?_))
    rw [w64i (n := (at_ : Int) + 1) (by omega) (by omega), w64i (n := (at_ : Int) + 1 + (i : Int)) (by omega) (by omega)]
    refine W.ifT ⟨by omega, by omega⟩ ?_
    obtain ⟨ad, h5, ea, ew, d, _⟩ := d.setW (i := 1) (j := at_ + 1 + i) (v := q.2.1) rfl (by omega)
    subst ea
    refine W.bs rfl (W.bs (by rw [show Int.toNat ((at_ : Int) + 1 + (i : Int)) * 1 = at_ + 1 + i from by omega]; exact ew) ?_)
    refine W.ite (fun co => ?_) (fun co => ?_)
    ·have co : ok = true := co
     refine W.inl ⟨by rw [co, Bool.true_and], some ad, aa', ?_⟩
     rw [List.length_set]
     exact d
    ·have co : ok = false := by simpa using co
     refine W.inl ⟨by rw [co, Bool.false_and], some ad, aa', ?_⟩
     rw [List.length_set]
     exact d
   ·rintro ⟨z1, z2⟩ ⟨y1, a', aa', d⟩
    simp only at y1 d
    subst y1
    ((try simp only [n1, n2, n3, n4, n5, n6] at d); (with_reducible repeat first | refine W.a1 d ?_ | refine W.a2 ?_ | refine W.a3 ?_ | refine W.bo ?_ | refine W.a5 d fun hw d lw kw => ?_ | refine W.a6 d ?_ | refine W.a7 ?_ | refine W.a8 ?_))
    dsimp only
    rw [w64i (n := (i : Int) + 1) (by omega) (by omega)]
    exact W.ret ⟨a', aa', rfl, rfl, d⟩
end Go.Proofs.Ytjmkbglnjklbcaa.Am
set_option linter.unusedSimpArgs false
set_option linter.unusedVariables false
namespace Go.Proofs.Ytjmkbglnjklbcaa.Am
open Go Go.RowKit
theorem sputList_loop {base wt wb sb tb f at_ : Nat} {P : Fp} {k n : Int} {s : ByteArray} {l : List Tm} {al : Option Addr} {V : Fp} {h0 : AH} (hl : l.length ≤ 20) (hw : ∀ t ∈ l, Wf f t) (ih : SPutR base f) : ∀ (r i : Nat) (h : AH) (w : List Int) (ats : List ByteArray) (a aa : Option Addr) (ok : Bool), i + r = l.length → at_ + 2 * l.length ≤ w.length → w.length + sumL (needT f) (l.drop i) ≤ 100000 → ats.length ≤ 1048576 → Hs base V h0 h (wsD wt wb sb a w.length aa ats.length ++ [(tb, 39, termV k n s al l.length)]) [rTSR P f l al, rW base a w, rSt base aa ats] →
  Wp (loopL (B134_0 base) [some (.pointer (at0 wb)), some (.pointer (at0 sb)), some (.pointer (at0 tb)), some (.int .i64 (l.length : Int)), some (.int .i64 (at_ : Int)), some (.bool ok), some (.int .i64 (i : Int))] h) fun o => ∃ a' aa', o.1 = 2 ∧ o.2.1 = [some (.pointer (at0 wb)), some (.int .i64 (l.length : Int)), some (.int .i64 (at_ : Int)), some (.bool (ok && (ptL (pt 0 f) 0 (l.drop i) (at_ + 2 * i) (w, ats)).2))] ∧ Hs base V h0 o.2.2 (wsD wt wb sb a' (ptL (pt 0 f) 0 (l.drop i) (at_ + 2 * i) (w, ats)).1.1.length aa' (ptL (pt 0 f) 0 (l.drop i) (at_ + 2 * i) (w, ats)).1.2.length) [rTSR P f l al, rW base a' (ptL (pt 0 f) 0 (l.drop i) (at_ + 2 * i) (w, ats)).1.1, rSt base aa' (ptL (pt 0 f) 0 (l.drop i) (at_ + 2 * i) (w, ats)).1.2] := by
 intro r
 induction r with
 | zero =>
  intro i h w ats a aa ok hi hat hn hal d
  suffices w1 : Wp (B134_0 base [some (.pointer (at0 wb)), some (.pointer (at0 sb)), some (.pointer (at0 tb)), some (.int .i64 (l.length : Int)), some (.int .i64 (at_ : Int)), some (.bool ok), some (.int .i64 (i : Int))] h) fun o => o = (2, [some (.pointer (at0 wb)), some (.int .i64 (l.length : Int)), some (.int .i64 (at_ : Int)), some (.bool ok)], h) by
   obtain ⟨o, e, rfl⟩ := w1
   refine ⟨_, loop_off (by decide) e, a, aa, rfl, ?_, ?_⟩
   ·rw [List.drop_of_length_le (by omega), ptL, Bool.and_true]
   ·rw [List.drop_of_length_le (by omega), ptL]
    exact d.takeD 2
  rw [B134_0_eq]
  ((try simp only [n1, n2, n3, n4, n5, n6] at d); (with_reducible repeat first | refine W.a1 d ?_ | refine W.a2 ?_ | refine W.a3 ?_ | refine W.bo ?_ | refine W.a5 d fun hw d lw kw => ?_ | refine W.a6 d ?_ | refine W.a7 ?_ | refine W.a8 ?_))
  exact W.ifF (by simp; omega) (W.ret rfl)
 | succ r ihr =>
  intro i h w ats a aa ok hi hat hn hal d
  have hlt : i < l.length := by omega
  have hwi := hw l[i] (List.getElem_mem _)
  have ed : l.drop i = l[i] :: l.drop (i + 1) := List.drop_eq_getElem_cons hlt
  have hn2 := hn
  rw [ed, sumL] at hn2
  obtain ⟨pk1, pk2⟩ := pt_ok (fr := 0) f l[i] hwi (w, ats)
  simp only at pk1 pk2
  generalize hq : pt 0 f (w, ats) l[i] = q at pk1 pk2
  suffices w1 : Wp (B134_0 base [some (.pointer (at0 wb)), some (.pointer (at0 sb)), some (.pointer (at0 tb)), some (.int .i64 (l.length : Int)), some (.int .i64 (at_ : Int)), some (.bool ok), some (.int .i64 (i : Int))] h) fun o => ∃ a' aa', o.1 = 0 ∧ o.2.1 = [some (.pointer (at0 wb)), some (.pointer (at0 sb)), some (.pointer (at0 tb)), some (.int .i64 (l.length : Int)), some (.int .i64 (at_ : Int)), some (.bool (ok && q.2.2)), some (.int .i64 ((i + 1 : Nat) : Int))] ∧ Hs base V h0 o.2.2 (wsD wt wb sb a' ((q.1.1.set (at_ + 2 * i) q.2.1).set (at_ + 2 * i + 1) (mkW 5 (0 + (at_ + 2 * i : Nat) + 2))).length aa' q.1.2.length ++ [(tb, 39, termV k n s al l.length)]) [rTSR P f l al, rW base a' ((q.1.1.set (at_ + 2 * i) q.2.1).set (at_ + 2 * i + 1) (mkW 5 (0 + (at_ + 2 * i : Nat) + 2))), rSt base aa' q.1.2] by
   obtain ⟨⟨o1, o2, h'⟩, e, a', aa', y1, y2, d'⟩ := w1
   simp only at y1 y2 d'
   subst y1; subst y2
   obtain ⟨o, eo, a2, aa2, z1, z2, z3⟩ := ihr (i + 1) h' _ _ a' aa' _ (by omega) (by rw [List.length_set, List.length_set]; omega) (by rw [List.length_set, List.length_set]; omega) (by omega) d'
   refine ⟨o, loop_on e eo, a2, aa2, z1, ?_, ?_⟩
   ·rw [z2, ed, ptL, hq]
    simp only
    rw [← Bool.and_assoc, show at_ + 2 * i + 2 = at_ + 2 * (i + 1) from by omega]
   ·rw [ed, ptL, hq]
    simp only
    rw [show at_ + 2 * i + 2 = at_ + 2 * (i + 1) from by omega]
    exact z3
  rw [B134_0_eq]
  ((try simp only [n1, n2, n3, n4, n5, n6] at d); (with_reducible repeat first | refine W.a1 d ?_ | refine W.a2 ?_ | refine W.a3 ?_ | refine W.bo ?_ | refine W.a5 d fun hw d lw kw => ?_ | refine W.a6 d ?_ | refine W.a7 ?_ | refine W.a8 ?_))
  refine W.ifT (decide_eq_true (by omega)) ?_
  cases f with
  | zero => obtain ⟨d', x, _, hx⟩ := hwi; rw [lk] at hx; omega
  | succ f =>
   refine W.joinP (fun z => z.1 = [some (.pointer (at0 wb)), some (.pointer (at0 sb)), some (.pointer (at0 tb)), some (.int .i64 (l.length : Int)), some (.int .i64 (at_ : Int)), some (.bool (ok && q.2.2)), some (.int .i64 (i : Int))] ∧ ∃ a' aa', Hs base V h0 z.2 (wsD wt wb sb a' ((q.1.1.set (at_ + 2 * i) q.2.1).set (at_ + 2 * i + 1) (mkW 5 (0 + (at_ + 2 * i : Nat) + 2))).length aa' q.1.2.length ++ [(tb, 39, termV k n s al l.length)]) [rTSR P (f + 1) l al, rW base a' ((q.1.1.set (at_ + 2 * i) q.2.1).set (at_ + 2 * i + 1) (mkW 5 (0 + (at_ + 2 * i : Nat) + 2))), rSt base aa' q.1.2]) ?_ ?_
   ·((try simp only [n1, n2, n3, n4, n5, n6] at d); (with_reducible repeat first | refine W.a1 d ?_ | refine W.a2 ?_ | refine W.a3 ?_ | refine W.bo ?_ | refine W.a5 d fun hw d lw kw => ?_ | refine W.a6 d ?_ | refine W.a7 ?_ | refine W.a8 ?_))
    refine W.t4 (d.rs (i := 0) rfl : TsR h P (f + 1) l al) hlt fun k2 n2 s2 a2 l2 el hm _ hsz hln => ?_
    rw [← el] at hm
    have d := d.also (i := 0) rfl rfl (fun y => TmR y P (f + 1) l[i] (termV k2 n2 s2 a2 l2.length)) hm (fun U y y' ky hs x => TmR.keep ky hs _ _ _ x)
    ((try simp only [n1, n2, n3, n4, n5, n6] at d); (with_reducible repeat first | refine W.a1 d ?_ | refine W.a2 ?_ | refine W.a3 ?_ | refine W.bo ?_ | refine W.a5 d fun hw d lw kw => ?_ | refine W.a6 d ?_ | refine W.a7 ?_ | refine W.a8 ?_))
    have d := d.sw4
    have d1 := Hs.part (D1 := [_, _]) (R1 := [_, _, _]) d
    refine W.wb (ih wt wb sb P l[i] _ w ats a aa _ _ _ hwi (by omega) hal d1) ?_
    rintro ⟨u, h4⟩ ⟨a', aa', y1, d2⟩
    simp only at y1 d2
    subst y1
    have d := (Hs.back (D1 := [_, _]) (R1 := [_, _, _]) d d2 (imP rfl rfl)).sw4
    rw [hq] at d ⊢
    have d := d.takeR 3
    clear d1 d2
    ((try simp only [n1, n2, n3, n4, n5, n6] at d); (with_reducible repeat first | refine W.a1 d ?_ | refine W.a2 ?_ | refine W.a3 ?_ | refine W.bo ?_ | refine W.a5 d fun hw d lw kw => ?_ | refine W.a6 d ?_ | refine W.a7 ?_ | refine W.a8 ?_))
    rw [w64i (n := 2 * (i : Int)) (by omega) (by omega), w64i (n := (at_ : Int) + 2 * (i : Int)) (by omega) (by omega)]
    refine W.ifT ⟨by omega, by omega⟩ ?_
    obtain ⟨ad, h5, ea, ew, d, _⟩ := d.setW (i := 1) (j := at_ + 2 * i) (v := q.2.1) rfl (by omega)
    subst ea
    refine W.bs rfl (W.bs (by rw [show Int.toNat ((at_ : Int) + 2 * (i : Int)) * 1 = at_ + 2 * i from by omega]; exact ew) ?_)
    ((try simp only [n1, n2, n3, n4, n5, n6] at d); (with_reducible repeat first | refine W.a1 d ?_ | refine W.a2 ?_ | refine W.a3 ?_ | refine W.bo ?_ | refine W.a5 d fun hw d lw kw => ?_ | refine W.a6 d ?_ | refine W.a7 ?_ | refine W.a8 ?_))
    refine W.bs specMk_run ?_
    ((try simp only [n1, n2, n3, n4, n5, n6] at d); (with_reducible repeat first | refine W.a1 d ?_ | refine W.a2 ?_ | refine W.a3 ?_ | refine W.bo ?_ | refine W.a5 d fun hw d lw kw => ?_ | refine W.a6 d ?_ | refine W.a7 ?_ | refine W.a8 ?_))
    rw [w64i (n := (at_ : Int) + 2 * (i : Int) + 2) (by omega) (by omega), w64i (n := (at_ : Int) + 2 * (i : Int) + 1) (by omega) (by omega)]
    refine W.ifT ⟨by omega, by omega⟩ ?_
    obtain ⟨ad2, h6, ea2, ew2, d, _⟩ := d.setW (i := 1) (j := at_ + 2 * i + 1) (v := mkW 5 ((at_ : Int) + 2 * (i : Int) + 2)) rfl (by rw [List.length_set]; omega)
    injection ea2 with ea2
    subst ea2
    refine W.bs rfl (W.bs (by rw [show Int.toNat ((at_ : Int) + 2 * (i : Int) + 1) * 1 = at_ + 2 * i + 1 from by omega]; exact ew2) ?_)
    rw [show (at_ : Int) + 2 * (i : Int) + 2 = 0 + ((at_ + 2 * i : Nat) : Int) + 2 from by omega] at d
    refine W.ite (fun co => ?_) (fun co => ?_)
    ·have co : ok = true := co
     refine W.inl ⟨by rw [co, Bool.true_and], some ad, aa', ?_⟩
     rw [List.length_set, List.length_set]
     exact d
    ·have co : ok = false := by simpa using co
     refine W.inl ⟨by rw [co, Bool.false_and], some ad, aa', ?_⟩
     rw [List.length_set, List.length_set]
     exact d
   ·rintro ⟨z1, z2⟩ ⟨y1, a', aa', d⟩
    simp only at y1 d
    subst y1
    ((try simp only [n1, n2, n3, n4, n5, n6] at d); (with_reducible repeat first | refine W.a1 d ?_ | refine W.a2 ?_ | refine W.a3 ?_ | refine W.bo ?_ | refine W.a5 d fun hw d lw kw => ?_ | refine W.a6 d ?_ | refine W.a7 ?_ | refine W.a8 ?_))
    dsimp only
    rw [w64i (n := (i : Int) + 1) (by omega) (by omega)]
    exact W.ret ⟨a', aa', rfl, rfl, d⟩
theorem sputList_run {base wt wb sb f : Nat} {P : Fp} {k n : Int} {s : ByteArray} {l : List Tm} {al : Option Addr} {V : Fp} {h0 h : AH} {w : List Int} {ats : List ByteArray} {a aa : Option Addr} (hl : l.length ≤ 20) (hwf : ∀ t ∈ l, Wf f t) (ih : SPutR base f) (hn : w.length + 2 * l.length + sumL (needT f) l ≤ 100000) (hal : ats.length ≤ 1048576) (d : Hs base V h0 h (wsD wt wb sb a w.length aa ats.length) [rTSR P f l al, rW base a w, rSt base aa ats]) :
  Wp (run (Et base) 134 [.pointer (at0 wb), .pointer (at0 sb), .agg (termV k n s al l.length).toArray] h) fun o => ∃ a' aa', o.1 = .tuple #[.int .i64 (pt 0 (f + 1) (w, ats) (.mk 5 0 ⟨#[]⟩ l)).2.1, .bool (pt 0 (f + 1) (w, ats) (.mk 5 0 ⟨#[]⟩ l)).2.2] ∧ Hs base V h0 o.2 (wsD wt wb sb a' (pt 0 (f + 1) (w, ats) (.mk 5 0 ⟨#[]⟩ l)).1.1.length aa' (pt 0 (f + 1) (w, ats) (.mk 5 0 ⟨#[]⟩ l)).1.2.length) [rTSR P f l al, rW base a' (pt 0 (f + 1) (w, ats) (.mk 5 0 ⟨#[]⟩ l)).1.1, rSt base aa' (pt 0 (f + 1) (w, ats) (.mk 5 0 ⟨#[]⟩ l)).1.2] := by
 refine W.of (fun r hx => Am.r134 hx) ?_
 rw [pt_list (by decide)]
 ((try simp only [n1, n2, n3, n4, n5, n6] at d); (with_reducible repeat first | refine W.a1 d ?_ | refine W.a2 ?_ | refine W.a3 ?_ | refine W.bo ?_ | refine W.a5 d fun hw d lw kw => ?_ | refine W.a6 d ?_ | refine W.a7 ?_ | refine W.a8 ?_); (refine W.nD d fun h1 d _ kh1 => ?_); (with_reducible repeat first | refine W.a1 d ?_ | refine W.a2 ?_ | refine W.a3 ?_ | refine W.bo ?_ | refine W.a5 d fun hw d lw kw => ?_ | refine W.a6 d ?_ | refine W.a7 ?_ | refine W.a8 ?_))
 have d := (d.front (Del.at (i := 2) rfl)).front (Del.at (i := 2) rfl)
 simp only [n5, n6] at d
 by_cases cl : l = []
 ·rw [if_pos cl]
  refine W.ifT (by rw [cl]; rfl) ?_
  refine W.bs specMk_run ?_
  ((try simp only [n1, n2, n3, n4, n5, n6] at d); (with_reducible repeat first | refine W.a1 d ?_ | refine W.a2 ?_ | refine W.a3 ?_ | refine W.bo ?_ | refine W.a5 d fun hw d lw kw => ?_ | refine W.a6 d ?_ | refine W.a7 ?_ | refine W.a8 ?_))
  exact W.ret ⟨a, aa, rfl, d.takeD 2⟩
 rw [if_neg cl]
 have hpos : 0 < l.length := List.length_pos_iff.2 cl
 refine W.ifF (by simp; omega) ?_
 ((try simp only [n1, n2, n3, n4, n5, n6] at d); (with_reducible repeat first | refine W.a1 d ?_ | refine W.a2 ?_ | refine W.a3 ?_ | refine W.bo ?_ | refine W.a5 d fun hw d lw kw => ?_ | refine W.a6 d ?_ | refine W.a7 ?_ | refine W.a8 ?_))
 rw [w64i (n := 2 * (l.length : Int)) (by omega) (by omega), show 2 * (l.length : Int) = ((2 * l.length : Nat) : Int) from by omega]
 refine W.ifT ⟨by omega, by omega⟩ ?_
 obtain ⟨a', h2, e2, d, _⟩ := d.extW (i := 1) (m := 2 * l.length) (new := List.replicate (2 * l.length) 0) (src := some (rep [.int .i64 0] (Int.toNat ((2 * l.length : Nat) : Int)))) rfl (by rw [Int.toNat_natCast, rep_ivs]) (by simp) (by omega)
 rw [Int.toNat_natCast] at e2 ⊢
 refine W.bs e2 ?_
 ((try simp only [n1, n2, n3, n4, n5, n6] at d); (with_reducible repeat first | refine W.a1 d ?_ | refine W.a2 ?_ | refine W.a3 ?_ | refine W.bo ?_ | refine W.a5 d fun hw d lw kw => ?_ | refine W.a6 d ?_ | refine W.a7 ?_ | refine W.a8 ?_))
 have hlen : (w ++ List.replicate (2 * l.length) 0).length = w.length + 2 * l.length := by simp
 rw [← hlen] at d
 refine W.wb (sputList_loop (base := base) (at_ := w.length) hl hwf ih l.length 0 _ _ ats a' aa true (by omega) (by omega) (by rw [List.drop_zero, hlen]; omega) hal d) ?_
 rintro ⟨o1, o2, h3⟩ ⟨a2, aa2, y1, y2, d⟩
 simp only at y1 y2 d
 subst y1; subst y2
 refine W.ifT rfl ?_
 rw [List.drop_zero, Nat.mul_zero, Nat.add_zero] at d
 rw [List.drop_zero, Nat.mul_zero, Nat.add_zero, Bool.true_and]
 have hz := ptL_len (g := pt 0 f) (fr := 0) (nd := needT f) l w.length (w ++ List.replicate (2 * l.length) 0, ats) (fun t ht => pt_ok f t (hwf t ht))
 simp only [hlen] at hz
 generalize ptL (pt 0 f) 0 l w.length (w ++ List.replicate (2 * l.length) 0, ats) = z at d hz ⊢
 ((try simp only [n1, n2, n3, n4, n5, n6] at d); (with_reducible repeat first | refine W.a1 d ?_ | refine W.a2 ?_ | refine W.a3 ?_ | refine W.bo ?_ | refine W.a5 d fun hw d lw kw => ?_ | refine W.a6 d ?_ | refine W.a7 ?_ | refine W.a8 ?_))
 refine W.bs specMk_run ?_
 ((try simp only [n1, n2, n3, n4, n5, n6] at d); (with_reducible repeat first | refine W.a1 d ?_ | refine W.a2 ?_ | refine W.a3 ?_ | refine W.bo ?_ | refine W.a5 d fun hw d lw kw => ?_ | refine W.a6 d ?_ | refine W.a7 ?_ | refine W.a8 ?_))
 rw [w64i (n := 2 * (l.length : Int)) (by omega) (by omega), w64i (n := (w.length : Int) + 2 * (l.length : Int)) (by omega) (by omega), w64i (n := (w.length : Int) + 2 * (l.length : Int) - 1) (by omega) (by omega)]
 refine W.ifT ⟨by omega, by omega⟩ ?_
 obtain ⟨ad, h5, ea, ew, d, _⟩ := d.setW (i := 1) (j := w.length + 2 * l.length - 1) (v := mkW 3 0) rfl (by omega)
 subst ea
 refine W.bs rfl (W.bs (by rw [show Int.toNat ((w.length : Int) + 2 * (l.length : Int) - 1) * 1 = w.length + 2 * l.length - 1 from by omega]; exact ew) ?_)
 ((try simp only [n1, n2, n3, n4, n5, n6] at d); (with_reducible repeat first | refine W.a1 d ?_ | refine W.a2 ?_ | refine W.a3 ?_ | refine W.bo ?_ | refine W.a5 d fun hw d lw kw => ?_ | refine W.a6 d ?_ | refine W.a7 ?_ | refine W.a8 ?_))
 refine W.bs specMk_run ?_
 ((try simp only [n1, n2, n3, n4, n5, n6] at d); (with_reducible repeat first | refine W.a1 d ?_ | refine W.a2 ?_ | refine W.a3 ?_ | refine W.bo ?_ | refine W.a5 d fun hw d lw kw => ?_ | refine W.a6 d ?_ | refine W.a7 ?_ | refine W.a8 ?_))
 rw [show mkW 3 0 = 3 from rfl] at d
 refine W.ret ⟨some ad, aa2, by rw [Int.zero_add], ?_⟩
 rw [List.length_set]
 exact d
theorem sput_succ {base f : Nat} (ih : SPutR base f) : SPutR base (f + 1) := by
 intro wt wb sb P t cs w ats a aa V h0 h hwf hn hal d
 obtain ⟨k, n, s, l⟩ := t
 obtain ⟨hsh, hch⟩ := hwf.open
 obtain ⟨ks, k0, k1, k3, k4, k5, k6⟩ := sh_kinds hsh
 have hm : TmR h P (f + 1) (.mk k n s l) cs := d.rs (i := 0) rfl
 obtain ⟨al, rfl, hts, hsz, hln⟩ := hm.parts
 have hl20 : l.length ≤ 20 := by
  by_cases c4 : k = 4
  ·have := k4 c4; omega
  ·by_cases c5 : k = 5
   ·exact k5 c5
   ·rw [k0 c4 c5]; omega
 rw [needT] at hn
 have d := d.also (i := 0) rfl rfl (fun y => TsR y P f l al) hts (fun U y y' ky hs x => x.keep ky hs)
 simp only [n5, n6] at d
 refine W.of (fun r hx => Am.r72 hx) ?_
 ((try simp only [n1, n2, n3, n4, n5, n6] at d); (with_reducible repeat first | refine W.a1 d ?_ | refine W.a2 ?_ | refine W.a3 ?_ | refine W.bo ?_ | refine W.a5 d fun hw d lw kw => ?_ | refine W.a6 d ?_ | refine W.a7 ?_ | refine W.a8 ?_); (refine W.nD d fun h1 d _ kh1 => ?_); (with_reducible repeat first | refine W.a1 d ?_ | refine W.a2 ?_ | refine W.a3 ?_ | refine W.bo ?_ | refine W.a5 d fun hw d lw kw => ?_ | refine W.a6 d ?_ | refine W.a7 ?_ | refine W.a8 ?_))
 have d := (d.front (Del.at (i := 2) rfl)).front (Del.at (i := 2) rfl)
 simp only [n5, n6] at d
 refine W.ite (fun c => ?_) (fun c => ?_)
 ·have c : k = 1 := by simpa using c
  have := k1 c
  rw [show pt 0 (f + 1) (w, ats) (.mk k n s l) = ((w, ats), mkW 0 (n + 1000000), true) from by rw [pt, if_pos c]]
  ((try simp only [n1, n2, n3, n4, n5, n6] at d); (with_reducible repeat first | refine W.a1 d ?_ | refine W.a2 ?_ | refine W.a3 ?_ | refine W.bo ?_ | refine W.a5 d fun hw d lw kw => ?_ | refine W.a6 d ?_ | refine W.a7 ?_ | refine W.a8 ?_))
  rw [w64i (n := n + 1000000) (by omega) (by omega)]
  refine W.bs specMk_run ?_
  ((try simp only [n1, n2, n3, n4, n5, n6] at d); (with_reducible repeat first | refine W.a1 d ?_ | refine W.a2 ?_ | refine W.a3 ?_ | refine W.bo ?_ | refine W.a5 d fun hw d lw kw => ?_ | refine W.a6 d ?_ | refine W.a7 ?_ | refine W.a8 ?_))
  exact W.ret ⟨a, aa, rfl, (d.takeD 2).takeR 3⟩
 have c1 : ¬ k = 1 := by simpa using c
 refine W.ite (fun c => ?_) (fun c => ?_)
 ·have c : k = 3 := by simpa using c
  rw [show pt 0 (f + 1) (w, ats) (.mk k n s l) = ((w, ats), mkW 2 n, true) from by rw [pt, if_neg c1, if_neg (by omega), if_pos c]]
  ((try simp only [n1, n2, n3, n4, n5, n6] at d); (with_reducible repeat first | refine W.a1 d ?_ | refine W.a2 ?_ | refine W.a3 ?_ | refine W.bo ?_ | refine W.a5 d fun hw d lw kw => ?_ | refine W.a6 d ?_ | refine W.a7 ?_ | refine W.a8 ?_))
  refine W.bs specMk_run ?_
  ((try simp only [n1, n2, n3, n4, n5, n6] at d); (with_reducible repeat first | refine W.a1 d ?_ | refine W.a2 ?_ | refine W.a3 ?_ | refine W.bo ?_ | refine W.a5 d fun hw d lw kw => ?_ | refine W.a6 d ?_ | refine W.a7 ?_ | refine W.a8 ?_))
  exact W.ret ⟨a, aa, rfl, (d.takeD 2).takeR 3⟩
 have c3 : ¬ k = 3 := by simpa using c
 refine W.ite (fun c => ?_) (fun c => ?_)
 ·have c : k = 2 := by simpa using c
  rw [show pt 0 (f + 1) (w, ats) (.mk k n s l) = ((w, (addA ats s).1), mkW 1 (addA ats s).2, decide ((addA ats s).2 ≥ 0)) from by rw [pt, if_neg c1, if_pos c]]
  have hl := addA_len ats s
  obtain ⟨a2, h2, e2, o2, kk, f2⟩ := specAdd_run (base := base) h1 ats aa s hal hsz (d.rs (i := 2) rfl : Own base 9 h1 aa (stV ats)).sl (d.rlt (i := 2) rfl) d.ge
  ((try simp only [n1, n2, n3, n4, n5, n6] at d); (with_reducible repeat first | refine W.a1 d ?_ | refine W.a2 ?_ | refine W.a3 ?_ | refine W.bo ?_ | refine W.a5 d fun hw d lw kw => ?_ | refine W.a6 d ?_ | refine W.a7 ?_ | refine W.a8 ?_))
  refine W.bs e2 ?_
  have d := d.call kk (blk a2) (fun y => Own base 9 y a2 (stV (addA ats s).1)) o2 (fun U y y' ky hs x => x.keep ky hs) (fun b hb => ⟨f2 b hb, (o2.lt hb).2⟩)
  have d := d.pk5
  ((try simp only [n1, n2, n3, n4, n5, n6] at d); (with_reducible repeat first | refine W.a1 d ?_ | refine W.a2 ?_ | refine W.a3 ?_ | refine W.bo ?_ | refine W.a5 d fun hw d lw kw => ?_ | refine W.a6 d ?_ | refine W.a7 ?_ | refine W.a8 ?_))
  refine W.bs specMk_run ?_
  ((try simp only [n1, n2, n3, n4, n5, n6] at d); (with_reducible repeat first | refine W.a1 d ?_ | refine W.a2 ?_ | refine W.a3 ?_ | refine W.bo ?_ | refine W.a5 d fun hw d lw kw => ?_ | refine W.a6 d ?_ | refine W.a7 ?_ | refine W.a8 ?_))
  exact W.ret ⟨a, a2, rfl, d.takeD 2⟩
 have c2 : ¬ k = 2 := by simpa using c
 refine W.ite (fun c => ?_) (fun c => ?_)
 ·have c : k = 6 := by simpa using c
  have c4 : k ≠ 4 := by omega
  have c5 : k ≠ 5 := by omega
  have hs40 := k6 c
  have hbl := bsL_len s
  rw [show pt 0 (f + 1) (w, ats) (.mk k n s l) = ((w ++ (s.size : Int) :: bsL s, ats), mkW 6 (0 + w.length), true) from by rw [pt, if_neg c1, if_neg c2, if_neg c3, if_pos c]]
  rw [show ndN k s l.length = 1 + s.size from by unfold ndN; rw [if_neg c4, if_neg c5, if_pos c]] at hn
  have d := d.takeR 3
  ((try simp only [n1, n2, n3, n4, n5, n6] at d); (with_reducible repeat first | refine W.a1 d ?_ | refine W.a2 ?_ | refine W.a3 ?_ | refine W.bo ?_ | refine W.a5 d fun hw d lw kw => ?_ | refine W.a6 d ?_ | refine W.a7 ?_ | refine W.a8 ?_); (refine W.nD d fun h2 d _ kh2 => ?_); (with_reducible repeat first | refine W.a1 d ?_ | refine W.a2 ?_ | refine W.a3 ?_ | refine W.bo ?_ | refine W.a5 d fun hw d lw kw => ?_ | refine W.a6 d ?_ | refine W.a7 ?_ | refine W.a8 ?_))
  obtain ⟨a5, h5, e5, d⟩ := d.app1W (i := 1) rfl rfl (by omega)
  refine W.bs e5 ?_
  ((try simp only [n1, n2, n3, n4, n5, n6] at d); (with_reducible repeat first | refine W.a1 d ?_ | refine W.a2 ?_ | refine W.a3 ?_ | refine W.bo ?_ | refine W.a5 d fun hw d lw kw => ?_ | refine W.a6 d ?_ | refine W.a7 ?_ | refine W.a8 ?_))
  have d := d.tl
  have e0 : w ++ [(s.size : Int)] = w ++ (s.size : Int) :: (bsL s).take 0 := by simp
  rw [e0, show w.length + 1 = (w ++ (s.size : Int) :: (bsL s).take 0).length from by simp] at d
  refine W.wb (sputBin_loop (base := base) hs40 (by omega) s.size 0 _ a5 (by omega) d) ?_
  rintro ⟨o1, o2, h4⟩ ⟨a6, y1, y2, d⟩
  simp only at y1 y2 d
  subst y1; subst y2
  refine W.ifT rfl ?_
  ((try simp only [n1, n2, n3, n4, n5, n6] at d); (with_reducible repeat first | refine W.a1 d ?_ | refine W.a2 ?_ | refine W.a3 ?_ | refine W.bo ?_ | refine W.a5 d fun hw d lw kw => ?_ | refine W.a6 d ?_ | refine W.a7 ?_ | refine W.a8 ?_))
  refine W.bs specMk_run ?_
  ((try simp only [n1, n2, n3, n4, n5, n6] at d); (with_reducible repeat first | refine W.a1 d ?_ | refine W.a2 ?_ | refine W.a3 ?_ | refine W.bo ?_ | refine W.a5 d fun hw d lw kw => ?_ | refine W.a6 d ?_ | refine W.a7 ?_ | refine W.a8 ?_))
  exact W.ret ⟨a6, aa, by rw [Int.zero_add], d⟩
 have c6 : ¬ k = 6 := by simpa using c
 refine W.ite (fun c => ?_) (fun c => ?_)
 ·have c : k = 4 := by simpa using c
  have hl8 := k4 c
  rw [show pt 0 (f + 1) (w, ats) (.mk k n s l) = ((ptT (pt 0 f) l (w.length + 1) (w ++ (l.length : Int) :: List.replicate l.length 0, ats)).1, mkW 4 (0 + w.length), (ptT (pt 0 f) l (w.length + 1) (w ++ (l.length : Int) :: List.replicate l.length 0, ats)).2) from by rw [pt, if_neg c1, if_neg c2, if_neg c3, if_neg c6, if_pos c]]
  rw [show ndN k s l.length = 1 + l.length from by unfold ndN; rw [if_pos c]] at hn
  have d := d.sw4
  ((try simp only [n1, n2, n3, n4, n5, n6] at d); (with_reducible repeat first | refine W.a1 d ?_ | refine W.a2 ?_ | refine W.a3 ?_ | refine W.bo ?_ | refine W.a5 d fun hw d lw kw => ?_ | refine W.a6 d ?_ | refine W.a7 ?_ | refine W.a8 ?_); (refine W.nD d fun h2 d _ kh2 => ?_); (with_reducible repeat first | refine W.a1 d ?_ | refine W.a2 ?_ | refine W.a3 ?_ | refine W.bo ?_ | refine W.a5 d fun hw d lw kw => ?_ | refine W.a6 d ?_ | refine W.a7 ?_ | refine W.a8 ?_))
  obtain ⟨a5, h5, e5, d⟩ := d.app1W (i := 1) rfl rfl (by omega)
  refine W.bs e5 ?_
  ((try simp only [n1, n2, n3, n4, n5, n6] at d); (with_reducible repeat first | refine W.a1 d ?_ | refine W.a2 ?_ | refine W.a3 ?_ | refine W.bo ?_ | refine W.a5 d fun hw d lw kw => ?_ | refine W.a6 d ?_ | refine W.a7 ?_ | refine W.a8 ?_))
  have d := d.tl
  refine W.ifT ⟨by omega, by omega⟩ ?_
  obtain ⟨a', h6, e6, d, _⟩ := d.extW (i := 1) (m := l.length) (new := List.replicate l.length 0) (src := some (rep [.int .i64 0] (Int.toNat ((l.length : Nat) : Int)))) rfl (by rw [Int.toNat_natCast, rep_ivs]) (by simp) (by simp; omega)
  rw [Int.toNat_natCast] at e6 ⊢
  rw [show (w ++ [(l.length : Int)]).length = w.length + 1 from by simp] at e6
  refine W.bs e6 ?_
  ((try simp only [n1, n2, n3, n4, n5, n6] at d); (with_reducible repeat first | refine W.a1 d ?_ | refine W.a2 ?_ | refine W.a3 ?_ | refine W.bo ?_ | refine W.a5 d fun hw d lw kw => ?_ | refine W.a6 d ?_ | refine W.a7 ?_ | refine W.a8 ?_))
  have e0 : w ++ [(l.length : Int)] ++ List.replicate l.length 0 = w ++ (l.length : Int) :: List.replicate l.length 0 := by simp
  have hlen2 : (w ++ (l.length : Int) :: List.replicate l.length 0).length = w.length + 1 + l.length := by simp; omega
  rw [e0, ← hlen2] at d
  have d1 := Hs.part (D1 := [_, _, _]) (R1 := [_, _, _]) d
  refine W.wb (sputTup_loop (base := base) (at_ := w.length) hl20 hch ih l.length 0 _ _ ats a' aa true (by omega) (by omega) (by rw [List.drop_zero, hlen2]; omega) hal d1) ?_
  rintro ⟨o1, o2, h4⟩ ⟨a4, aa4, y1, y2, d2⟩
  simp only at y1 y2 d2
  subst y1; subst y2
  have d := (Hs.back (D1 := [_, _, _]) (R1 := [_, _, _]) d d2 (imP rfl rfl)).sw4
  rw [List.drop_zero, Nat.add_zero] at d
  rw [List.drop_zero, Nat.add_zero, Bool.true_and]
  have d := d.takeR 3
  clear d1 d2
  refine W.ifT rfl ?_
  ((try simp only [n1, n2, n3, n4, n5, n6] at d); (with_reducible repeat first | refine W.a1 d ?_ | refine W.a2 ?_ | refine W.a3 ?_ | refine W.bo ?_ | refine W.a5 d fun hw d lw kw => ?_ | refine W.a6 d ?_ | refine W.a7 ?_ | refine W.a8 ?_))
  refine W.bs specMk_run ?_
  ((try simp only [n1, n2, n3, n4, n5, n6] at d); (with_reducible repeat first | refine W.a1 d ?_ | refine W.a2 ?_ | refine W.a3 ?_ | refine W.bo ?_ | refine W.a5 d fun hw d lw kw => ?_ | refine W.a6 d ?_ | refine W.a7 ?_ | refine W.a8 ?_))
  exact W.ret ⟨a4, aa4, by rw [Int.zero_add], d⟩
 have c4 : ¬ k = 4 := by simpa using c
 have c5 : k = 5 := by omega
 rw [show ndN k s l.length = 2 * l.length from by unfold ndN; rw [if_neg c4, if_pos c5]] at hn
 ((try simp only [n1, n2, n3, n4, n5, n6] at d); (with_reducible repeat first | refine W.a1 d ?_ | refine W.a2 ?_ | refine W.a3 ?_ | refine W.bo ?_ | refine W.a5 d fun hw d lw kw => ?_ | refine W.a6 d ?_ | refine W.a7 ?_ | refine W.a8 ?_))
 have d := d.sw4
 have d1 := Hs.part (D1 := [_, _]) (R1 := [_, _, _]) d
 refine W.wb (sputList_run (base := base) (k := k) (n := n) (s := s) hl20 hch ih (by omega) hal d1) ?_
 rintro ⟨u, h4⟩ ⟨a4, aa4, y1, d2⟩
 simp only at y1 d2
 subst y1
 have d := (Hs.back (D1 := [_, _]) (R1 := [_, _, _]) d d2 (imP rfl rfl)).sw4
 have d := (d.takeD 2).takeR 3
 clear d1 d2
 rw [pt_list (by decide)] at d ⊢
 rw [pt_list ⟨c1, c2, c3, c6, c4⟩]
 ((try simp only [n1, n2, n3, n4, n5, n6] at d); (with_reducible repeat first | refine W.a1 d ?_ | refine W.a2 ?_ | refine W.a3 ?_ | refine W.bo ?_ | refine W.a5 d fun hw d lw kw => ?_ | refine W.a6 d ?_ | refine W.a7 ?_ | refine W.a8 ?_))
 exact W.ret ⟨a4, aa4, rfl, d⟩
theorem sput_run {base : Nat} : ∀ f, SPutR base f
 | 0 => fun wt wb sb P t cs w ats a aa V h0 h hwf _ _ _ => by obtain ⟨d, x, _, hx⟩ := hwf; rw [lk] at hx; omega
 | f + 1 => sput_succ (sput_run f)
end Go.Proofs.Ytjmkbglnjklbcaa.Am
set_option linter.unusedSimpArgs false
set_option linter.unusedVariables false
namespace Go.Proofs.Ytjmkbglnjklbcaa.Am
open Go Go.RowKit
def roomT (most : Int) (f : Nat) (w : List Int) (t : Tm) : Bool := tOk f t && decide ((w.length : Int) + needT f t ≤ most)
def putT (fr most : Int) (f : Nat) (w : List Int) (ats : List ByteArray) (t : Tm) : PS × Int × Bool :=
 if (roomT most f w t && (pt fr f (w, ats) t).2.2) = true then ((pt fr f (w, ats) t).1, (pt fr f (w, ats) t).2.1, true) else ((w, ats), 0, false)
theorem roomT_no {most : Int} {f : Nat} {w : List Int} {t : Tm} (n1 : Int) (h1 : n1 = needT f t) : (if (!tOk f t) = true then true else if decide ((w.length : Int) > most) = true then true else decide (n1 > most - (w.length : Int))) = !roomT most f w t := by
 unfold roomT
 subst h1
 cases tOk f t with
 | false => rfl
 | true =>
  by_cases c : (w.length : Int) > most
  ·have : ¬ ((w.length : Int) + needT f t ≤ most) := by omega
   simp [c, this]
  ·by_cases c2 : (w.length : Int) + needT f t ≤ most
   ·have : ¬ ((needT f t : Int) > most - (w.length : Int)) := by omega
    have e : ¬ ((needT f t : Int) > most - (w.length : Int)) := this
    simp only [Bool.not_true, decide_eq_true_eq, c, if_false, Bool.true_and]
    rw [decide_eq_false e, decide_eq_true c2]
    rfl
   ·have e : (needT f t : Int) > most - (w.length : Int) := by omega
    simp only [Bool.not_true, decide_eq_true_eq, c, if_false, Bool.true_and]
    rw [decide_eq_true e, decide_eq_false c2]
    rfl
theorem putT_no {fr most : Int} {f : Nat} {w : List Int} {ats : List ByteArray} {t : Tm} (h : roomT most f w t = false) : putT fr most f w ats t = ((w, ats), 0, false) := by
 unfold putT
 rw [h, Bool.false_and]
 rfl
theorem Hs.sw3 {base : Nat} {V : Fp} {h0 h : AH} {D : Ds} {x y z : Rs} (d : Hs base V h0 h D [x, y, z]) : Hs base V h0 h D [x, z, y] :=
 (d.frontR (Del.at (i := 2) rfl)).frontR (Del.at (i := 1) rfl)
theorem implPutT_run {base f : Nat} {h : AH} {p : Nat → Prop} {t : Tm} {cs : List Value} {w : List Int} {ats : List ByteArray} {a aa : Option Addr} {fr most : Int} (hm : TmR h p f t cs) (hp : ∀ b, p b → b < h.length) (hs : Sl h a (iv .i64 w)) (has : Sl h aa (stV ats)) (hwl : w.length ≤ 1048576) (hal : ats.length ≤ 1048576) (hfr : 0 ≤ fr ∧ fr ≤ 200000) (hmo : 0 ≤ most ∧ most ≤ 100000) (hb : base ≤ h.length) :
  ∃ a' aa' h', run (Et base) 74 [.slice a w.length w.length, .int .i64 fr, .int .i64 most, .slice aa ats.length ats.length, .agg cs.toArray] h = some (.tuple #[.slice a' (putT fr most f w ats t).1.1.length (putT fr most f w ats t).1.1.length, .slice aa' (putT fr most f w ats t).1.2.length (putT fr most f w ats t).1.2.length, .int .i64 (putT fr most f w ats t).2.1, .bool (putT fr most f w ats t).2.2], h') ∧ Hs base NoB h h' [] [rW base a' (putT fr most f w ats t).1.1, rSt base aa' (putT fr most f w ats t).1.2] := by
 have d := Hs.start hb
 have d := d.inp p (fun y => TmR y p f t cs) hm (fun U y y' ky hs x => TmR.keep ky hs _ _ _ x) hp (by simp) rfl
 simp only [List.nil_append] at d
 suffices W : Wp (run (Et base) 74 [.slice a w.length w.length, .int .i64 fr, .int .i64 most, .slice aa ats.length ats.length, .agg cs.toArray] h) fun o => ∃ a' aa', o.1 = .tuple #[.slice a' (putT fr most f w ats t).1.1.length (putT fr most f w ats t).1.1.length, .slice aa' (putT fr most f w ats t).1.2.length (putT fr most f w ats t).1.2.length, .int .i64 (putT fr most f w ats t).2.1, .bool (putT fr most f w ats t).2.2] ∧ Hs base NoB h o.2 [] [rW base a' (putT fr most f w ats t).1.1, rSt base aa' (putT fr most f w ats t).1.2] by
  obtain ⟨⟨o1, o2⟩, e, a', aa', y1, y2⟩ := W
  simp only at y1 y2
  subst y1
  exact ⟨a', aa', o2, e, y2⟩
 have hm0 := hm
 cases f with
 | zero => exact hm.elim
 | succ f =>
 obtain ⟨k, n, s, l⟩ := t
 obtain ⟨al, rfl, hts, hsz, hln⟩ := hm.parts
 refine W.of (fun r hx => Am.r74 hx) ?_
 ((try simp only [n1, n2, n3, n4, n5, n6] at d); (with_reducible repeat first | refine W.a1 d ?_ | refine W.a2 ?_ | refine W.a3 ?_ | refine W.bo ?_ | refine W.a5 d fun hw d lw kw => ?_ | refine W.a6 d ?_ | refine W.a7 ?_ | refine W.a8 ?_); (refine W.nD d fun h1 d _ kh1 => ?_); (with_reducible repeat first | refine W.a1 d ?_ | refine W.a2 ?_ | refine W.a3 ?_ | refine W.bo ?_ | refine W.a5 d fun hw d lw kw => ?_ | refine W.a6 d ?_ | refine W.a7 ?_ | refine W.a8 ?_))
 obtain ⟨a1, h2, e2, d, k2⟩ := d.copyS hal (has.keepN d.kb)
 refine W.bs e2 ?_
 ((try simp only [n1, n2, n3, n4, n5, n6] at d); (with_reducible repeat first | refine W.a1 d ?_ | refine W.a2 ?_ | refine W.a3 ?_ | refine W.bo ?_ | refine W.a5 d fun hw d lw kw => ?_ | refine W.a6 d ?_ | refine W.a7 ?_ | refine W.a8 ?_))
 have hnd : tOk (f + 1) (.mk k n s l) = true → needT (f + 1) (.mk k n s l) ≤ 4100 := fun h => (Wf.of h).need
 apply W.jb (if (!tOk (f + 1) (.mk k n s l)) = true then true else if decide ((w.length : Int) > most) = true then true else decide ((needT (f + 1) (.mk k n s l) : Int) > most - (w.length : Int))) d
 ·((try simp only [n1, n2, n3, n4, n5, n6] at d); (with_reducible repeat first | refine W.a1 d ?_ | refine W.a2 ?_ | refine W.a3 ?_ | refine W.bo ?_ | refine W.a5 d fun hw d lw kw => ?_ | refine W.a6 d ?_ | refine W.a7 ?_ | refine W.a8 ?_))
  obtain ⟨h3, e3, k3⟩ := implTermOk_run (base := base) (hm0.keep d.kb (fun _ _ h => h)) d.ge
  refine W.bs e3 ?_
  have d := d.kN k3
  ((try simp only [n1, n2, n3, n4, n5, n6] at d); (with_reducible repeat first | refine W.a1 d ?_ | refine W.a2 ?_ | refine W.a3 ?_ | refine W.bo ?_ | refine W.a5 d fun hw d lw kw => ?_ | refine W.a6 d ?_ | refine W.a7 ?_ | refine W.a8 ?_))
  refine W.ite (fun c => ?_) (fun c => ?_)
  ·rw [if_pos c]
   exact W.lb rfl rfl k3
  rw [if_neg c]
  have hto : tOk (f + 1) (.mk k n s l) = true := by simpa using c
  refine W.ite (fun c2 => ?_) (fun c2 => ?_)
  ·rw [if_pos c2]
   exact W.lb rfl rfl k3
  rw [if_neg c2]
  ((try simp only [n1, n2, n3, n4, n5, n6] at d); (with_reducible repeat first | refine W.a1 d ?_ | refine W.a2 ?_ | refine W.a3 ?_ | refine W.bo ?_ | refine W.a5 d fun hw d lw kw => ?_ | refine W.a6 d ?_ | refine W.a7 ?_ | refine W.a8 ?_))
  obtain ⟨h4, e4, k4⟩ := implNeed_run (base := base) (f + 1) h3 p _ _ (hm0.keep d.kb (fun _ _ h => h)) (Wf.of hto) d.ge
  refine W.bs e4 ?_
  ((try simp only [n1, n2, n3, n4, n5, n6] at d); (with_reducible repeat first | refine W.a1 d ?_ | refine W.a2 ?_ | refine W.a3 ?_ | refine W.bo ?_ | refine W.a5 d fun hw d lw kw => ?_ | refine W.a6 d ?_ | refine W.a7 ?_ | refine W.a8 ?_))
  rw [w64i (n := most - (w.length : Int)) (by omega) (by omega)]
  exact W.lb rfl rfl (kN k3 k4)
 intro h3 d n3
 rw [roomT_no _ rfl]
 ((try simp only [n1, n2, n3, n4, n5, n6] at d); (with_reducible repeat first | refine W.a1 d ?_ | refine W.a2 ?_ | refine W.a3 ?_ | refine W.bo ?_ | refine W.a5 d fun hw d lw kw => ?_ | refine W.a6 d ?_ | refine W.a7 ?_ | refine W.a8 ?_))
 refine W.ite (fun c => ?_) (fun c => ?_)
 ·have c : roomT most (f + 1) w (.mk k n s l) = false := by simpa using c
  rw [putT_no c]
  obtain ⟨a4, h4, e4, o4, k4, f4⟩ := copyIntsO_run (base := base) (hs.keepN d.kb) (by omega) d.ge
  refine W.bs e4 ?_
  have d := d.call k4 (blk a4) (fun y => Own base 3 y a4 (iv .i64 w)) o4 (fun U y y' k hs x => x.keep k hs) (fun i hi => ⟨f4 i hi, (o4.lt hi).2⟩)
  ((try simp only [n1, n2, n3, n4, n5, n6] at d); (with_reducible repeat first | refine W.a1 d ?_ | refine W.a2 ?_ | refine W.a3 ?_ | refine W.bo ?_ | refine W.a5 d fun hw d lw kw => ?_ | refine W.a6 d ?_ | refine W.a7 ?_ | refine W.a8 ?_))
  have d := (((d.frontR (Del.at (i := 2) rfl)).frontR (Del.at (i := 2) rfl)).frontR (Del.at (i := 1) rfl)).takeR 2
  exact W.ret ⟨a4, a1, rfl, d.takeD 0⟩
 have c : roomT most (f + 1) w (.mk k n s l) = true := by simpa using c
 have c' := c
 unfold roomT at c'
 rw [Bool.and_eq_true] at c'
 obtain ⟨hto, hrm⟩ := c'
 have hrm := of_decide_eq_true hrm
 have hwf := Wf.of hto
 obtain ⟨a4, h4, e4, o4, k4, f4⟩ := copyIntsO_run (base := base) (hs.keepN d.kb) (by omega) d.ge
 refine W.bs e4 ?_
 have d := d.call k4 (blk a4) (fun y => Own base 3 y a4 (iv .i64 w)) o4 (fun U y y' k hs x => x.keep k hs) (fun i hi => ⟨f4 i hi, (o4.lt hi).2⟩)
 ((try simp only [n1, n2, n3, n4, n5, n6] at d); (with_reducible repeat first | refine W.a1 d ?_ | refine W.a2 ?_ | refine W.a3 ?_ | refine W.bo ?_ | refine W.a5 d fun hw d lw kw => ?_ | refine W.a6 d ?_ | refine W.a7 ?_ | refine W.a8 ?_); (refine W.nD d fun h5 d _ kh5 => ?_); (with_reducible repeat first | refine W.a1 d ?_ | refine W.a2 ?_ | refine W.a3 ?_ | refine W.bo ?_ | refine W.a5 d fun hw d lw kw => ?_ | refine W.a6 d ?_ | refine W.a7 ?_ | refine W.a8 ?_))
 have d := d.sw3
 have d1 := Hs.part (D1 := [_]) (R1 := [_, _, _]) (R2 := []) d
 refine W.wb (put_run (base := base) (f + 1) _ fr p _ _ w ats a4 a1 false _ _ _ hwf hfr (by omega) hal d1) ?_
 rintro ⟨u, h6⟩ ⟨a', aa', y1, d2⟩
 simp only at y1 d2
 subst y1
 have d := Hs.back (D1 := [_]) (R1 := [_, _, _]) (R2 := []) d d2 (imP rfl rfl)
 clear d1 d2
 unfold putT
 rw [c, Bool.true_and]
 generalize pt fr (f + 1) (w, ats) (.mk k n s l) = z at d ⊢
 ((try simp only [n1, n2, n3, n4, n5, n6] at d); (with_reducible repeat first | refine W.a1 d ?_ | refine W.a2 ?_ | refine W.a3 ?_ | refine W.bo ?_ | refine W.a5 d fun hw d lw kw => ?_ | refine W.a6 d ?_ | refine W.a7 ?_ | refine W.a8 ?_))
 refine W.ite (fun cb => ?_) (fun cb => ?_)
 ·have cb : z.2.2 = false := by simpa using cb
  rw [cb, if_neg (by decide)]
  obtain ⟨a7, h7, e7, o7, k7, f7⟩ := copyIntsO_run (base := base) (hs.keepN d.kb) (by omega) d.ge
  refine W.bs e7 ?_
  have d := d.call k7 (blk a7) (fun y => Own base 3 y a7 (iv .i64 w)) o7 (fun U y y' k hs x => x.keep k hs) (fun i hi => ⟨f7 i hi, (o7.lt hi).2⟩)
  ((try simp only [n1, n2, n3, n4, n5, n6] at d); (with_reducible repeat first | refine W.a1 d ?_ | refine W.a2 ?_ | refine W.a3 ?_ | refine W.bo ?_ | refine W.a5 d fun hw d lw kw => ?_ | refine W.a6 d ?_ | refine W.a7 ?_ | refine W.a8 ?_))
  obtain ⟨a8, h8, e8, d, k8⟩ := d.copyS hal (has.keepN d.kb)
  refine W.bs e8 ?_
  ((try simp only [n1, n2, n3, n4, n5, n6] at d); (with_reducible repeat first | refine W.a1 d ?_ | refine W.a2 ?_ | refine W.a3 ?_ | refine W.bo ?_ | refine W.a5 d fun hw d lw kw => ?_ | refine W.a6 d ?_ | refine W.a7 ?_ | refine W.a8 ?_))
  have d := ((d.frontR (Del.at (i := 4) rfl)).frontR (Del.at (i := 4) rfl)).takeR 2
  exact W.ret ⟨a7, a8, rfl, d.takeD 0⟩
 ·have cb : z.2.2 = true := by simpa using cb
  rw [cb, if_pos rfl]
  ((try simp only [n1, n2, n3, n4, n5, n6] at d); (with_reducible repeat first | refine W.a1 d ?_ | refine W.a2 ?_ | refine W.a3 ?_ | refine W.bo ?_ | refine W.a5 d fun hw d lw kw => ?_ | refine W.a6 d ?_ | refine W.a7 ?_ | refine W.a8 ?_))
  have d := ((d.frontR (Del.at (i := 2) rfl)).frontR (Del.at (i := 2) rfl)).takeR 2
  exact W.ret ⟨a', aa', rfl, d.takeD 0⟩
end Go.Proofs.Ytjmkbglnjklbcaa.Am
set_option linter.unusedSimpArgs false
set_option linter.unusedVariables false
namespace Go.Proofs.Ytjmkbglnjklbcaa.Am
open Go Go.RowKit
theorem Hs.copyG {base b t bytes m : Nat} {V : Fp} {h0 h : AH} {D : Ds} {R : List Rs} {vs : List Value} {src : Option (List Value)} (d : Hs base V h0 h ((b, t, []) :: D) R) (hs : src = some vs) (hm : vs.length = m) (h1 : m ≤ 1048576 * 4) (hby : bytes ≤ 16) :
  ∃ a' h', Am.app base h t 1 bytes (at0 b) 0 src m = some (.slice a' m m, h') ∧ Hs base V h0 h' D (R ++ [⟨blk a', true, fun y => Own base t y a' vs⟩]) := by
 have d := d.unbox (Del.at (i := 0) rfl)
 simp only [n5, n6] at d
 have hbm : (0 + m) * bytes ≤ 140737488355328 := by
  have : (0 + m) * bytes ≤ (1048576 * 4) * 16 := Nat.mul_le_mul (by omega) hby
  omega
 obtain ⟨a2, h2, e2, d, k2⟩ := d.appN (i := R.length) (n := 0) (m := m) (sz := 1) (bytes := bytes) (a := at0 b) (t := t) (olds := []) (S := (· = b)) (by simp) (fun b hb => (blk_at0.1 hb)) (by simp) (by decide) hs hbm (by omega) (by omega)
 simp only [List.nil_append, Nat.zero_add] at e2 d
 refine ⟨a2, h2, e2, ?_⟩
 have e : ∀ (x y : Rs), (R ++ [x]).set R.length y = R ++ [y] := by intro x y; simp
 rw [e] at d
 exact d
theorem raw_ivs {h : AH} {a : Option Addr} {l : List Int} (x : Sl h a (iv .i64 l)) : rawAt h a (l.length * 1) = some (iv .i64 l) := by
 have := x.raw (iv_leaf _ _)
 simpa using this
theorem raw_st {h : AH} {a : Option Addr} {l : List ByteArray} (x : Sl h a (stV l)) : rawAt h a (l.length * 1) = some (stV l) := by
 have := x.raw (stV_leaf l)
 rw [stV_len] at this
 rw [Nat.mul_one]
 exact this
theorem Hs.call2R {base : Nat} {V : Fp} {h0 h h' : AH} {D D' : Ds} {R : List Rs} {x y : Rs} (d : Hs base V h0 h D R) (z : Hs base NoB h h' D' [x, y]) (hx : x.mu = true) (hy : y.mu = true) : Hs base V h0 h' D (R ++ [x, y]) := by
 obtain ⟨S, mx, A⟩ := x
 obtain ⟨T, my, B⟩ := y
 simp only at hx hy
 subst hx; subst hy
 have zx := z.res _ (.head _)
 have zy := z.res _ (.tail _ (.head _))
 rw [show R ++ [(⟨S, true, A⟩ : Rs), ⟨T, true, B⟩] = R ++ [⟨S, true, A⟩] ++ [⟨T, true, B⟩] from by simp]
 exact d.call2 z.kb S T A B zx.1 zy.1 zx.2.1 zy.2.1 (fun b hb => ⟨(zx.2.2.2.1 rfl b hb).resolve_left fun h => h, zx.2.2.1 b hb⟩) (fun b hb => ⟨(zy.2.2.2.1 rfl b hb).resolve_left fun h => h, zy.2.2.1 b hb⟩) (fun b h1 h2 => by
  have := z.dj
  rw [List.pairwise_cons] at this
  exact this.1 _ (.head _) rfl b h1 h2)
theorem putT_yes {fr most : Int} {f : Nat} {w : List Int} {ats : List ByteArray} {t : Tm} (h : roomT most f w t = true) : putT fr most f w ats t = if (pt fr f (w, ats) t).2.2 = true then ((pt fr f (w, ats) t).1, (pt fr f (w, ats) t).2.1, true) else ((w, ats), 0, false) := by
 unfold putT
 rw [h, Bool.true_and]
theorem roomT_spec {most : Int} {f : Nat} {w : List Int} {t : Tm} : (if (!tOk f t) = true then true else decide ((w.length : Int) + needT f t > most)) = !roomT most f w t := by
 unfold roomT
 cases tOk f t with
 | false => rfl
 | true =>
  by_cases c2 : (w.length : Int) + needT f t ≤ most
  ·simp only [Bool.not_true, Bool.false_eq_true, if_false, Bool.true_and]
   rw [decide_eq_false (by omega), decide_eq_true c2]
   rfl
  ·simp only [Bool.not_true, Bool.false_eq_true, if_false, Bool.true_and]
   rw [decide_eq_true (by omega), decide_eq_false c2]
   rfl
end Go.Proofs.Ytjmkbglnjklbcaa.Am
set_option linter.unusedSimpArgs false
set_option linter.unusedVariables false
namespace Go.Proofs.Ytjmkbglnjklbcaa.Am
open Go Go.RowKit
structure Sg where
 seg : List Int
 ats : List ByteArray
 word : Int
 ok : Bool
structure SgT where
 ws : List Int
 seg : List Int
 ats : List ByteArray
 ok : Bool
def sgT (g : Int → List ByteArray → Tm → Sg) : List Tm → Int → List ByteArray → SgT
 | [], _, ats => ⟨[], [], ats, true⟩
 | t :: r, b, ats => ⟨(g b ats t).word :: (sgT g r (b + (g b ats t).seg.length) (g b ats t).ats).ws, (g b ats t).seg ++ (sgT g r (b + (g b ats t).seg.length) (g b ats t).ats).seg, (sgT g r (b + (g b ats t).seg.length) (g b ats t).ats).ats, (g b ats t).ok && (sgT g r (b + (g b ats t).seg.length) (g b ats t).ats).ok⟩
def lnO (b : Int) : List Int → List Int
 | [] => []
 | w :: r => w :: mkW 5 (b + 2) :: lnO (b + 2) r
def lnk (b : Int) : List Int → List Int
 | [] => []
 | w :: r => w :: (if r = [] then 3 else mkW 5 (b + 2)) :: lnk (b + 2) r
def sg : Nat → Int → List ByteArray → Tm → Sg
 | 0, _, ats, _ => ⟨[], ats, 0, true⟩
 | f + 1, b, ats, .mk k n s l =>
  if k = 1 then ⟨[], ats, mkW 0 (n + 1000000), true⟩
  else if k = 2 then ⟨[], (addA ats s).1, mkW 1 (addA ats s).2, decide ((addA ats s).2 ≥ 0)⟩
  else if k = 3 then ⟨[], ats, mkW 2 n, true⟩
  else if k = 6 then ⟨(s.size : Int) :: bsL s, ats, mkW 6 b, true⟩
  else if k = 4 then ⟨(l.length : Int) :: ((sgT (sg f) l (b + 1 + l.length) ats).ws ++ (sgT (sg f) l (b + 1 + l.length) ats).seg), (sgT (sg f) l (b + 1 + l.length) ats).ats, mkW 4 b, (sgT (sg f) l (b + 1 + l.length) ats).ok⟩
  else if l = [] then ⟨[], ats, 3, true⟩
  else ⟨lnk b (sgT (sg f) l (b + 2 * l.length) ats).ws ++ (sgT (sg f) l (b + 2 * l.length) ats).seg, (sgT (sg f) l (b + 2 * l.length) ats).ats, mkW 5 b, (sgT (sg f) l (b + 2 * l.length) ats).ok⟩
theorem lnk_len (b : Int) (l : List Int) : (lnk b l).length = 2 * l.length := by
 induction l generalizing b with
 | nil => rfl
 | cons w r ih => simp only [lnk, List.length_cons, ih]; omega
theorem sgT_len {g : Int → List ByteArray → Tm → Sg} (l : List Tm) (b : Int) (ats : List ByteArray) : (sgT g l b ats).ws.length = l.length := by
 induction l generalizing b ats with
 | nil => rfl
 | cons t r ih => simp only [sgT, List.length_cons, ih]
theorem lnO_set {b : Int} (l : List Int) (hl : l ≠ []) (post : List Int) : (lnO b l ++ post).set (2 * l.length - 1) 3 = lnk b l ++ post := by
 induction l generalizing b with
 | nil => exact absurd rfl hl
 | cons w r ih =>
  by_cases hr : r = []
  ·subst hr
   simp [lnO, lnk]
  ·have hp : 0 < r.length := List.length_pos_iff.2 hr
   have e : 2 * (w :: r).length - 1 = (2 * r.length - 1) + 1 + 1 := by simp; omega
   rw [e]
   simp only [lnO, lnk, List.cons_append, List.set_cons_succ, if_neg hr]
   rw [ih hr]
theorem set_app {p q : List Int} {i : Nat} {v : Int} : (p ++ q).set (p.length + i) v = p ++ q.set i v := by
 rw [List.set_append_right _ _ (by omega), Nat.add_sub_cancel_left]
def PtSg (fr : Int) (g : PS → Tm → PS × Int × Bool) (s : Int → List ByteArray → Tm → Sg) (t : Tm) : Prop := ∀ (w : List Int) (ats : List ByteArray), g (w, ats) t = ((w ++ (s (fr + w.length) ats t).seg, (s (fr + w.length) ats t).ats), (s (fr + w.length) ats t).word, (s (fr + w.length) ats t).ok)
theorem ptT_sg {fr : Int} {g : PS → Tm → PS × Int × Bool} {s : Int → List ByteArray → Tm → Sg} : ∀ (l : List Tm) (pre post : List Int) (ats : List ByteArray) (b : Int), (∀ t ∈ l, PtSg fr g s t) → b = fr + (pre.length : Int) + l.length + post.length →
  ptT g l pre.length (pre ++ (List.replicate l.length 0 ++ post), ats) = ((pre ++ ((sgT s l b ats).ws ++ (post ++ (sgT s l b ats).seg)), (sgT s l b ats).ats), (sgT s l b ats).ok)
 | [], pre, post, ats, b, _, _ => by simp [ptT, sgT]
 | t :: r, pre, post, ats, b, h, hb => by
  have ht := h t (.head _) (pre ++ (List.replicate (t :: r).length 0 ++ post)) ats
  have e0 : fr + ((pre ++ (List.replicate (t :: r).length 0 ++ post)).length : Int) = b := by
   rw [hb]; simp only [List.length_append, List.length_replicate]; omega
  rw [e0] at ht
  rw [ptT, ht, sgT]
  generalize s b ats t = q
  simp only
  have e1 : (pre ++ (List.replicate (t :: r).length 0 ++ post) ++ q.seg).set pre.length q.word = (pre ++ [q.word]) ++ (List.replicate r.length 0 ++ (post ++ q.seg)) := by
   rw [List.append_assoc, show pre.length = pre.length + 0 from rfl, set_app]
   simp [List.replicate_succ]
  rw [e1, show pre.length + 1 = (pre ++ [q.word]).length from by simp]
  rw [ptT_sg r (pre ++ [q.word]) (post ++ q.seg) q.ats (b + q.seg.length) (fun u hu => h u (.tail _ hu)) (by rw [hb]; simp only [List.length_append, List.length_cons, List.length_nil]; omega)]
  simp
theorem ptL_sg {fr : Int} {g : PS → Tm → PS × Int × Bool} {s : Int → List ByteArray → Tm → Sg} : ∀ (l : List Tm) (pre post : List Int) (ats : List ByteArray) (b : Int), (∀ t ∈ l, PtSg fr g s t) → b = fr + (pre.length : Int) + 2 * l.length + post.length →
  ptL g fr l pre.length (pre ++ (List.replicate (2 * l.length) 0 ++ post), ats) = ((pre ++ (lnO (fr + pre.length) (sgT s l b ats).ws ++ (post ++ (sgT s l b ats).seg)), (sgT s l b ats).ats), (sgT s l b ats).ok)
 | [], pre, post, ats, b, _, _ => by simp [ptL, sgT, lnO]
 | t :: r, pre, post, ats, b, h, hb => by
  have ht := h t (.head _) (pre ++ (List.replicate (2 * (t :: r).length) 0 ++ post)) ats
  have e0 : fr + ((pre ++ (List.replicate (2 * (t :: r).length) 0 ++ post)).length : Int) = b := by
   rw [hb]; simp only [List.length_append, List.length_replicate]; omega
  rw [e0] at ht
  rw [ptL, ht, sgT]
  generalize s b ats t = q
  simp only
  have e1 : ((pre ++ (List.replicate (2 * (t :: r).length) 0 ++ post) ++ q.seg).set pre.length q.word).set (pre.length + 1) (mkW 5 (fr + pre.length + 2)) = (pre ++ [q.word, mkW 5 (fr + pre.length + 2)]) ++ (List.replicate (2 * r.length) 0 ++ (post ++ q.seg)) := by
   have e2 : ∀ x : List Int, (pre ++ x).set pre.length q.word = pre ++ x.set 0 q.word := fun x => set_app (i := 0)
   rw [List.append_assoc, e2, set_app, show 2 * (t :: r).length = 2 * r.length + 1 + 1 from by simp; omega]
   simp [List.replicate_succ]
  rw [e1, show pre.length + 2 = (pre ++ [q.word, mkW 5 (fr + pre.length + 2)]).length from by simp]
  rw [ptL_sg r (pre ++ [q.word, mkW 5 (fr + pre.length + 2)]) (post ++ q.seg) q.ats (b + q.seg.length) (fun u hu => h u (.tail _ hu)) (by rw [hb]; simp only [List.length_append, List.length_cons, List.length_nil]; omega)]
  simp only [lnO, List.length_append, List.length_cons, List.length_nil]
  rw [show fr + ((pre.length + (0 + 1 + 1) : Nat) : Int) = fr + pre.length + 2 from by omega]
  simp
theorem pt_sg {fr : Int} : ∀ (f : Nat) (t : Tm), PtSg fr (pt fr f) (sg f) t
 | 0, t => fun w ats => by simp [pt, sg]
 | f + 1, .mk k n s l => fun w ats => by
  have ih := fun t (_ : t ∈ l) => pt_sg (fr := fr) f t
  rw [pt, sg]
  by_cases c1 : k = 1
  ·simp [c1]
  rw [if_neg c1, if_neg c1]
  by_cases c2 : k = 2
  ·simp [c2]
  rw [if_neg c2, if_neg c2]
  by_cases c3 : k = 3
  ·simp [c3]
  rw [if_neg c3, if_neg c3]
  by_cases c6 : k = 6
  ·simp [c6]
  rw [if_neg c6, if_neg c6]
  by_cases c4 : k = 4
  ·rw [if_pos c4, if_pos c4]
   have e := ptT_sg (g := pt fr f) l (w ++ [(l.length : Int)]) [] ats (fr + w.length + 1 + l.length) ih (by simp; omega)
   rw [show (w ++ [(l.length : Int)]).length = w.length + 1 from by simp] at e
   simp only [List.append_nil, List.nil_append, List.append_assoc, List.cons_append] at e
   simp only
   rw [e]
  rw [if_neg c4, if_neg c4]
  by_cases cl : l = []
  ·simp [cl]
  rw [if_neg cl, if_neg cl]
  have hp : 0 < l.length := List.length_pos_iff.2 cl
  have e := ptL_sg (g := pt fr f) l w [] ats (fr + w.length + 2 * l.length) ih (by simp)
  simp only [List.append_nil, List.nil_append] at e
  simp only
  rw [e]
  simp only
  generalize hz : sgT (sg f) l (fr + w.length + 2 * l.length) ats = z
  have hl : z.ws.length = l.length := by rw [← hz]; exact sgT_len _ _ _
  have hne : z.ws ≠ [] := by intro e; rw [e] at hl; simp at hl; omega
  rw [show w.length + 2 * l.length - 1 = w.length + (2 * z.ws.length - 1) from by omega, set_app, lnO_set _ hne]
end Go.Proofs.Ytjmkbglnjklbcaa.Am
set_option linter.unusedSimpArgs false
set_option linter.unusedVariables false
namespace Go.Proofs.Ytjmkbglnjklbcaa.Am
open Go Go.RowKit
def spl (o : List Int) (p : Nat) (s : List Int) : List Int := o.take p ++ (s ++ o.drop (p + s.length))
theorem spl_len {o s : List Int} {p : Nat} (h : p + s.length ≤ o.length) : (spl o p s).length = o.length := by
 unfold spl; simp only [List.length_append, List.length_take, List.length_drop]; omega
theorem spl_get {o s : List Int} {p : Nat} (h : p + s.length ≤ o.length) (j : Nat) : (spl o p s)[j]? = if j < p then o[j]? else if j < p + s.length then s[j - p]? else o[j]? := by
 unfold spl
 have hp : (o.take p).length = p := by rw [List.length_take]; omega
 by_cases c1 : j < p
 ·rw [if_pos c1, List.getElem?_append_left (by omega), List.getElem?_take_of_lt c1]
 ·rw [if_neg c1, List.getElem?_append_right (by omega), hp]
  by_cases c2 : j < p + s.length
  ·rw [if_pos c2, List.getElem?_append_left (by omega)]
  ·rw [if_neg c2, List.getElem?_append_right (by omega), List.getElem?_drop]
   congr 1
   omega
theorem spl_nil (o : List Int) (p : Nat) : spl o p [] = o := by simp [spl]
theorem spl_one {o : List Int} {i : Nat} {v : Int} (h : i < o.length) : o.set i v = spl o i [v] := by
 unfold spl
 rw [List.set_eq_take_append_cons_drop, if_pos h]
 rfl
theorem spl_adj {o s t : List Int} {p : Nat} (h : p + s.length + t.length ≤ o.length) : spl (spl o p s) (p + s.length) t = spl o p (s ++ t) := by
 apply List.ext_getElem?
 intro j
 rw [spl_get (by rw [spl_len (by omega)]; omega), spl_get (by omega), spl_get (by rw [List.length_append]; omega), List.length_append]
 by_cases c1 : j < p
 ·rw [if_pos (by omega), if_pos c1, if_pos c1]
 ·by_cases c2 : j < p + s.length
  ·rw [if_pos c2, if_neg c1, if_pos c2, if_neg c1, if_pos (by omega), List.getElem?_append_left (by omega)]
  ·rw [if_neg c2]
   by_cases c3 : j < p + s.length + t.length
   ·rw [if_pos c3, if_neg c1, if_pos (by omega), List.getElem?_append_right (by omega)]
    congr 1
    omega
   ·rw [if_neg c3, if_neg c1, if_neg c2, if_neg c1, if_neg (by omega)]
theorem spl_com {o s t : List Int} {p q : Nat} (h1 : p + s.length ≤ q) (h2 : q + t.length ≤ o.length) : spl (spl o p s) q t = spl (spl o q t) p s := by
 apply List.ext_getElem?
 intro j
 rw [spl_get (by rw [spl_len (by omega)]; omega), spl_get (by omega), spl_get (by rw [spl_len (by omega)]; omega), spl_get (by omega)]
 by_cases c1 : j < p
 ·rw [if_pos (by omega), if_pos c1, if_pos c1, if_pos (by omega)]
 ·by_cases c2 : j < p + s.length
  ·rw [if_pos (by omega), if_neg c1, if_pos c2, if_neg c1, if_pos c2]
  ·by_cases c3 : j < q
   ·rw [if_pos c3, if_neg c1, if_neg c2, if_neg c1, if_neg c2, if_pos c3]
   ·by_cases c4 : j < q + t.length
    ·rw [if_neg c3, if_pos c4, if_neg c1, if_neg c2, if_neg c3, if_pos c4]
    ·rw [if_neg c3, if_neg c4, if_neg c1, if_neg c2, if_neg c1, if_neg c2, if_neg c3, if_neg c4]
theorem spl_step {o ws sg1 sgs : List Int} {w : Int} {c bb m : Nat} (hm : m = sg1.length) (h1 : c + 1 + ws.length ≤ bb) (h2 : bb + sg1.length + sgs.length ≤ o.length) : spl (spl (spl (o.set c w) bb sg1) (c + 1) ws) (bb + m) sgs = spl (spl o c (w :: ws)) bb (sg1 ++ sgs) := by
 subst hm
 have hl : (spl o c [w]).length = o.length := spl_len (by simp only [List.length_singleton]; omega)
 have e1 : spl (spl o c [w]) (c + 1) ws = spl o c (w :: ws) := spl_adj (s := [w]) (by simp only [List.length_singleton]; omega)
 have hl2 : (spl o c (w :: ws)).length = o.length := spl_len (by simp only [List.length_cons]; omega)
 have e2 : spl (spl (spl o c [w]) (c + 1) ws) bb sg1 = spl (spl (spl o c [w]) bb sg1) (c + 1) ws := spl_com (by omega) (by omega)
 rw [spl_one (by omega), ← e2, e1, spl_adj (by omega)]
def Has (W : List Int) (p : Nat) (s : List Int) : Prop := ∀ k (hk : k < s.length), W[p + k]? = some s[k]
theorem Has.app {W s t : List Int} {p : Nat} (h : Has W p (s ++ t)) : Has W p s ∧ Has W (p + s.length) t := by
 refine ⟨fun k hk => ?_, fun k hk => ?_⟩
 ·rw [h k (by rw [List.length_append]; omega), List.getElem_append_left hk]
 ·rw [Nat.add_assoc, h (s.length + k) (by rw [List.length_append]; omega), List.getElem_append_right (by omega)]
  simp
theorem Has.cons {W s : List Int} {x : Int} {p : Nat} (h : Has W p (x :: s)) : W[p]? = some x ∧ Has W (p + 1) s := by
 obtain ⟨a, b⟩ := Has.app (s := [x]) (t := s) h
 exact ⟨a 0 (by simp), b⟩
theorem Has.lt {W s : List Int} {p : Nat} (h : Has W p s) (hs : s ≠ []) : p + s.length ≤ W.length := by
 have hp : 0 < s.length := List.length_pos_iff.2 hs
 have := h (s.length - 1) (by omega)
 have := (List.getElem?_eq_some_iff.1 this).1
 omega
theorem sgT_ind {f : Nat} (ih : ∀ t b b' ats, (sg f b ats t).ats = (sg f b' ats t).ats ∧ (sg f b ats t).ok = (sg f b' ats t).ok ∧ (sg f b ats t).seg.length = (sg f b' ats t).seg.length) : ∀ (l : List Tm) (b b' : Int) (ats : List ByteArray), (sgT (sg f) l b ats).ats = (sgT (sg f) l b' ats).ats ∧ (sgT (sg f) l b ats).ok = (sgT (sg f) l b' ats).ok ∧ (sgT (sg f) l b ats).seg.length = (sgT (sg f) l b' ats).seg.length
 | [], b, b', ats => ⟨rfl, rfl, rfl⟩
 | t :: r, b, b', ats => by
  obtain ⟨a1, a2, a3⟩ := ih t b b' ats
  obtain ⟨b1, b2, b3⟩ := sgT_ind ih r (b + (sg f b ats t).seg.length) (b' + (sg f b' ats t).seg.length) (sg f b ats t).ats
  simp only [sgT]
  rw [← a1]
  exact ⟨b1, by rw [a2, b2], by rw [List.length_append, List.length_append, b3, a3]⟩
theorem sg_ind : ∀ (f : Nat) (t : Tm) (b b' : Int) (ats : List ByteArray), (sg f b ats t).ats = (sg f b' ats t).ats ∧ (sg f b ats t).ok = (sg f b' ats t).ok ∧ (sg f b ats t).seg.length = (sg f b' ats t).seg.length
 | 0, t, b, b', ats => ⟨rfl, rfl, rfl⟩
 | f + 1, .mk k n s l, b, b', ats => by
  have ih := sgT_ind (sg_ind f)
  rw [sg, sg]
  by_cases c1 : k = 1
  ·simp only [if_pos c1]; exact ⟨trivial, trivial, trivial⟩
  simp only [if_neg c1]
  by_cases c2 : k = 2
  ·simp only [if_pos c2]; exact ⟨trivial, trivial, trivial⟩
  simp only [if_neg c2]
  by_cases c3 : k = 3
  ·simp only [if_pos c3]; exact ⟨trivial, trivial, trivial⟩
  simp only [if_neg c3]
  by_cases c6 : k = 6
  ·simp only [if_pos c6]; exact ⟨trivial, trivial, trivial⟩
  simp only [if_neg c6]
  by_cases c4 : k = 4
  ·simp only [if_pos c4]
   obtain ⟨i1, i2, i3⟩ := ih l (b + 1 + l.length) (b' + 1 + l.length) ats
   refine ⟨i1, i2, ?_⟩
   simp only [List.length_cons, List.length_append, sgT_len, i3]
  simp only [if_neg c4]
  by_cases cl : l = []
  ·simp only [if_pos cl]; exact ⟨trivial, trivial, trivial⟩
  simp only [if_neg cl]
  obtain ⟨i1, i2, i3⟩ := ih l (b + 2 * l.length) (b' + 2 * l.length) ats
  refine ⟨i1, i2, ?_⟩
  simp only [List.length_append, lnk_len, sgT_len, i3]
theorem sg_len {f : Nat} {t : Tm} (hw : Wf f t) (b : Int) (ats : List ByteArray) : (sg f b ats t).seg.length = needT f t := by
 have a := (pt_ok (fr := b) f t hw ([], ats)).1
 rw [pt_sg f t] at a
 simpa using a
def movW (w by_ : Int) : Int := if inB (tagW w) 4 6 = true then mkW (tagW w) (valW w + by_) else w
theorem mk_tag {t v : Int} (ht : 0 ≤ t ∧ t ≤ 6) (hv : 0 ≤ v ∧ v ≤ 4000000) : tagW (mkW t v) = t ∧ valW (mkW t v) = v ∧ 0 ≤ mkW t v ∧ mkW t v ≤ 40000000 := by
 have e : mkW t v = t + 8 * v := by
  unfold mkW
  rw [if_pos (by unfold inB; simp; omega), if_pos (by unfold inB; simp; omega)]
 rw [e]
 unfold tagW valW
 rw [if_neg (by omega), if_neg (by omega)]
 omega
theorem mk_low {t v : Int} (ht : 0 ≤ t ∧ t ≤ 3) : tagW (mkW t v) ≤ 3 ∧ 0 ≤ mkW t v ∧ mkW t v ≤ 40000000 := by
 by_cases hv : 0 ≤ v ∧ v ≤ 4000000
 ·obtain ⟨a, b, c, d⟩ := mk_tag (t := t) (v := v) (by omega) hv
  omega
 ·have e : mkW t v = 0 := by
   unfold mkW
   by_cases hi : inB t 0 6 = true
   ·rw [if_pos hi, if_neg (by unfold inB; simp; omega)]
   ·rw [if_neg hi]
  rw [e]
  exact ⟨by decide, by decide, by decide⟩
theorem mov_low {w b : Int} (h : tagW w ≤ 3) : movW w b = w := by
 unfold movW
 rw [if_neg (by unfold inB; simp; omega)]
theorem mov_mk {t v b : Int} (ht : 4 ≤ t ∧ t ≤ 6) (hv : 0 ≤ v ∧ v ≤ 4000000) : movW (mkW t v) b = mkW t (v + b) := by
 obtain ⟨a, b', _⟩ := mk_tag (t := t) (by omega) hv
 unfold movW
 rw [a, b', if_pos (by unfold inB; simp; omega)]
theorem sg_word {f : Nat} {t : Tm} {b by_ : Int} {ats : List ByteArray} (hb : 0 ≤ b ∧ b ≤ 1000000) (hy : 0 ≤ by_ ∧ by_ ≤ 1000000) : movW (sg f b ats t).word by_ = (sg f (b + by_) ats t).word ∧ 0 ≤ (sg f b ats t).word ∧ (sg f b ats t).word ≤ 40000000 := by
 cases f with
 | zero => exact ⟨by simp only [sg]; exact mov_low (by decide), by simp [sg], by simp [sg]⟩
 | succ f =>
  obtain ⟨k, n, s, l⟩ := t
  rw [sg, sg]
  by_cases c1 : k = 1
  ·simp only [if_pos c1]
   have := mk_low (t := 0) (v := n + 1000000) (by omega)
   exact ⟨mov_low this.1, this.2⟩
  simp only [if_neg c1]
  by_cases c2 : k = 2
  ·simp only [if_pos c2]
   have := mk_low (t := 1) (v := (addA ats s).2) (by omega)
   exact ⟨mov_low this.1, this.2⟩
  simp only [if_neg c2]
  by_cases c3 : k = 3
  ·simp only [if_pos c3]
   have := mk_low (t := 2) (v := n) (by omega)
   exact ⟨mov_low this.1, this.2⟩
  simp only [if_neg c3]
  by_cases c6 : k = 6
  ·simp only [if_pos c6]
   exact ⟨mov_mk (by omega) (by omega), (mk_tag (by omega) (by omega)).2.2⟩
  simp only [if_neg c6]
  by_cases c4 : k = 4
  ·simp only [if_pos c4]
   exact ⟨mov_mk (by omega) (by omega), (mk_tag (by omega) (by omega)).2.2⟩
  simp only [if_neg c4]
  by_cases cl : l = []
  ·simp only [if_pos cl]
   exact ⟨mov_low (by decide), by decide, by decide⟩
  simp only [if_neg cl]
  exact ⟨mov_mk (by omega) (by omega), (mk_tag (by omega) (by omega)).2.2⟩
theorem l6Moved_run {base : Nat} {h : AH} {w b : Int} (hw : 0 ≤ w ∧ w ≤ 40000000) (hb : 0 ≤ b ∧ b ≤ 1000000) : run (Et base) 138 [.int .i64 w, .int .i64 b] h = some (.int .i64 (movW w b), h) := by
 have hv : 0 ≤ valW w ∧ valW w ≤ 40000000 := by
  unfold valW
  rw [if_neg (by omega)]
  omega
 suffices W : Wp (run (Et base) 138 [.int .i64 w, .int .i64 b] h) fun o => o = (.int .i64 (movW w b), h) by
  obtain ⟨o, e, rfl⟩ := W
  exact e
 refine W.of (fun r hx => Am.r138 hx) ?_
 refine W.bs specTag_run (W.bI rfl ?_)
 refine W.bs l1In_run (W.bB rfl ?_)
 unfold movW
 refine W.ite (fun c => ?_) (fun c => ?_)
 ·rw [if_pos c]
  refine W.bs specTag_run (W.bI rfl ?_)
  refine W.bs (specVal_run (by omega)) (W.bI rfl ?_)
  rw [w64i (n := valW w + b) (by omega) (by omega)]
  exact W.bs specMk_run (W.bI rfl (W.ret rfl))
 ·rw [if_neg c]
  exact W.ret rfl
end Go.Proofs.Ytjmkbglnjklbcaa.Am
set_option linter.unusedSimpArgs false
set_option linter.unusedVariables false
namespace Go.Proofs.Ytjmkbglnjklbcaa.Am
open Go Go.RowKit
abbrev rSl (P : Fp) (a : Option Addr) (Z : List Int) : Rs := ⟨P, false, fun y => Sl y a (iv .i64 Z)⟩
theorem Hs.rdW {base j : Nat} {V : Fp} {h0 h : AH} {D : Ds} {R : List Rs} {P : Fp} {a : Option Addr} {Z : List Int} {v : Int} (d : Hs base V h0 h D (rSl P a Z :: R)) (hj : Z[j]? = some v) : j < Z.length ∧ ∃ ad, a = some ad ∧ Am.cell h ad.block (ad.off + j) = some (.int .i64 v) := by
 obtain ⟨hlt, e⟩ := List.getElem?_eq_some_iff.1 hj
 obtain ⟨ad, h1, h2⟩ := (d.rs (i := 0) rfl : Sl h a (iv .i64 Z)).cell (i := j) (v := .int .i64 v) (by simp [iv, hj])
 exact ⟨hlt, ad, h1, h2⟩
def ShR (base f : Nat) : Prop := ∀ (t : Tm) (b : Nat) (by_ : Int) (ats : List ByteArray) (Z out : List Int) (P : Fp) (a c : Option Addr) (V : Fp) (h0 h : AH) (D : Ds) (R : List Rs), Wf f t → Has Z b (sg f b ats t).seg → b + (sg f b ats t).seg.length ≤ Z.length → Z.length ≤ 100000 → out.length = Z.length → (0 ≤ by_ ∧ by_ ≤ 200000) →
 Hs base V h0 h D (rSl P a Z :: rW base c out :: R) →
 Wp (run (Et base) 137 [.slice a Z.length Z.length, .slice c Z.length Z.length, .int .i64 (sg f b ats t).word, .int .i64 by_] h) fun o => o.1 = .tuple #[] ∧ Hs base V h0 o.2 D (rSl P a Z :: rW base c (spl out b (sg f (b + by_) ats t).seg) :: R)
theorem shBin_loop {base : Nat} {Z : List Int} {P : Fp} {a : Option Addr} {V : Fp} {h0 : AH} {D : Ds} {R : List Rs} {b n : Nat} {s : List Int} {out : List Int} {c : Option Addr} (hs : s.length = n + 1) (hn : n ≤ 40) (hh : Has Z b s) (h0s : Z[b]? = some (n : Int)) (hW : Z.length ≤ 100000) (hb : b + s.length ≤ Z.length) (ho : out.length = Z.length) : ∀ (r i : Nat) (h : AH), i + r = n + 1 → Hs base V h0 h D (rSl P a Z :: rW base c (spl out b (s.take i)) :: R) →
  Wp (loopL (B137_0 base) [some (.slice a Z.length Z.length), some (.slice c Z.length Z.length), some (.int .i64 (b : Int)), some (.int .i64 ((b + i : Nat) : Int))] h) fun o => o.1 = 3 ∧ Hs base V h0 o.2.2 D (rSl P a Z :: rW base c (spl out b s) :: R) := by
 intro r
 induction r with
 | zero =>
  intro i h hi d
  obtain ⟨hl1, ad, rfl, g⟩ := d.rdW h0s
  suffices w1 : Wp (B137_0 base [some (.slice (some ad) Z.length Z.length), some (.slice c Z.length Z.length), some (.int .i64 (b : Int)), some (.int .i64 ((b + i : Nat) : Int))] h) fun o => o = (3, [], h) by
   obtain ⟨o, e, rfl⟩ := w1
   refine ⟨_, loop_off (by decide) e, rfl, ?_⟩
   rw [List.take_of_length_le (by omega)] at d
   exact d
  rw [B137_0_eq]
  refine W.ifT ⟨by omega, by omega⟩ (W.bs rfl (W.bI (by rw [Int.toNat_natCast, Nat.mul_one]; exact g) ?_))
  rw [w64i (n := (b : Int) + n) (by omega) (by omega)]
  exact W.ifF (by simp; omega) (W.ret rfl)
 | succ r ihr =>
  intro i h hi d
  have hlt : i < s.length := by omega
  obtain ⟨hl1, ad, rfl, g⟩ := d.rdW h0s
  have hsi := hh i hlt
  obtain ⟨hl2, ad2, e2, g2⟩ := d.rdW hsi
  injection e2 with e2
  subst e2
  suffices w1 : Wp (B137_0 base [some (.slice (some ad) Z.length Z.length), some (.slice c Z.length Z.length), some (.int .i64 (b : Int)), some (.int .i64 ((b + i : Nat) : Int))] h) fun o => o.1 = 0 ∧ o.2.1 = [some (.slice (some ad) Z.length Z.length), some (.slice c Z.length Z.length), some (.int .i64 (b : Int)), some (.int .i64 ((b + (i + 1) : Nat) : Int))] ∧ Hs base V h0 o.2.2 D (rSl P (some ad) Z :: rW base c (spl out b (s.take (i + 1))) :: R) by
   obtain ⟨⟨o1, o2, h'⟩, e, y1, y2, d'⟩ := w1
   simp only at y1 y2 d'
   subst y1; subst y2
   obtain ⟨o, eo, q⟩ := ihr (i + 1) h' (by omega) d'
   exact ⟨o, loop_on e eo, q⟩
  rw [B137_0_eq]
  refine W.ifT ⟨by omega, by omega⟩ (W.bs rfl (W.bI (by rw [Int.toNat_natCast, Nat.mul_one]; exact g) ?_))
  rw [w64i (n := (b : Int) + n) (by omega) (by omega), w64i (n := ((b + i : Nat) : Int) + 1) (by omega) (by omega)]
  refine W.ifT (decide_eq_true (by omega)) (W.ifT ⟨by omega, by omega⟩ (W.bs rfl (W.bI (by rw [Int.toNat_natCast, Nat.mul_one]; exact g2) (W.ifT ⟨by omega, by omega⟩ ?_))))
  have hti : (s.take i).length = i := by rw [List.length_take]; omega
  obtain ⟨ad3, h5, ea, ew, d, _⟩ := d.setW (i := 1) (j := b + i) (v := s[i]) rfl (by rw [spl_len (by omega)]; omega)
  subst ea
  refine W.bs rfl (W.bs (by rw [Int.toNat_natCast, Nat.mul_one]; exact ew) ?_)
  have es : (spl out b (s.take i)).set (b + i) s[i] = spl out b (s.take (i + 1)) := by
   rw [spl_one (by rw [spl_len (by omega)]; omega), List.take_succ_eq_append_getElem hlt]
   have := spl_adj (o := out) (p := b) (s := s.take i) (t := [s[i]]) (by simp only [List.length_singleton]; omega)
   rw [hti] at this
   exact this
  rw [es] at d
  exact W.ret ⟨rfl, rfl, d⟩
end Go.Proofs.Ytjmkbglnjklbcaa.Am
set_option linter.unusedSimpArgs false
set_option linter.unusedVariables false
namespace Go.Proofs.Ytjmkbglnjklbcaa.Am
open Go Go.RowKit
theorem shLow {base : Nat} {h : AH} {a c : Option Addr} {n : Nat} {w b : Int} (hw : 0 ≤ w ∧ w ≤ 40000000) (ht : tagW w ≤ 3) : Wp (run (Et base) 137 [.slice a n n, .slice c n n, .int .i64 w, .int .i64 b] h) fun o => o = (.tuple #[], h) := by
 refine W.of (fun r hx => Am.r137 hx) ?_
 refine W.bs (specVal_run (by omega)) (W.bI rfl (W.bs specTag_run (W.bI rfl ?_)))
 refine W.ifF (by simp; omega) (W.ifF (by simp; omega) (W.ifF (by simp; omega) (W.ret rfl)))
theorem shCell1 {base : Nat} {Z : List Int} {P : Fp} {a : Option Addr} {V : Fp} {h0 h : AH} {D : Ds} {R : List Rs} {out out2 : List Int} {c : Option Addr} {v i n : Nat} {w by_ : Int} (hv : Z[v]? = some (n : Int)) (hi : i ≤ v + n) (hZ : Z.length ≤ 100000) (hn : n ≤ 8) (hz : Z[i]? = some w) (hw : 0 ≤ w ∧ w ≤ 40000000) (hby : 0 ≤ by_ ∧ by_ ≤ 200000) (ho : out.length = Z.length) (d : Hs base V h0 h D (rSl P a Z :: rW base c out :: R))
  (hc : ∀ h1, Hs base V h0 h1 D (rSl P a Z :: rW base c (out.set i (movW w by_)) :: R) → Wp (run (Et base) 137 [.slice a Z.length Z.length, .slice c Z.length Z.length, .int .i64 w, .int .i64 by_] h1) fun o => o.1 = .tuple #[] ∧ Hs base V h0 o.2 D (rSl P a Z :: rW base c out2 :: R)) :
  Wp (B137_1 base [some (.slice a Z.length Z.length), some (.slice c Z.length Z.length), some (.int .i64 by_), some (.int .i64 (v : Int)), some (.int .i64 (i : Int))] h) fun o => o.1 = 0 ∧ o.2.1 = [some (.slice a Z.length Z.length), some (.slice c Z.length Z.length), some (.int .i64 by_), some (.int .i64 (v : Int)), some (.int .i64 ((i + 1 : Nat) : Int))] ∧ Hs base V h0 o.2.2 D (rSl P a Z :: rW base c out2 :: R) := by
 obtain ⟨hl1, ad, rfl, g⟩ := d.rdW hv
 obtain ⟨hl2, ad2, e2, g2⟩ := d.rdW hz
 injection e2 with e2
 subst e2
 rw [B137_1_eq]
 refine W.ifT ⟨by omega, by omega⟩ (W.bs rfl (W.bI (by rw [Int.toNat_natCast, Nat.mul_one]; exact g) ?_))
 rw [w64i (n := (v : Int) + n) (by omega) (by omega), w64i (n := (i : Int) + 1) (by omega) (by omega)]
 refine W.ifT (decide_eq_true (by omega)) (W.ifT ⟨by omega, by omega⟩ (W.bs rfl (W.bI (by rw [Int.toNat_natCast, Nat.mul_one]; exact g2) ?_)))
 refine W.bs (l6Moved_run hw (by omega)) (W.bI rfl (W.ifT ⟨by omega, by omega⟩ ?_))
 obtain ⟨ad3, h5, ea, ew, d, _⟩ := d.setW (i := 1) (j := i) (v := movW w by_) rfl (by omega)
 subst ea
 refine W.bs rfl (W.bs (by rw [Int.toNat_natCast, Nat.mul_one]; exact ew) ?_)
 obtain ⟨_, ad4, e4, g4⟩ := d.rdW hz
 injection e4 with e4
 subst e4
 refine W.ifT ⟨by omega, by omega⟩ (W.bs rfl (W.bI (by rw [Int.toNat_natCast, Nat.mul_one]; exact g4) ?_))
 refine W.wb (hc _ d) ?_
 rintro ⟨o1, h6⟩ ⟨y1, d6⟩
 simp only at y1 d6
 subst y1
 exact W.bs rfl (W.ret ⟨rfl, rfl, d6⟩)
theorem shCell2 {base : Nat} {Z : List Int} {P : Fp} {a : Option Addr} {V : Fp} {h0 h : AH} {D : Ds} {R : List Rs} {out out2 : List Int} {c : Option Addr} {v i : Nat} {w by_ : Int} (hi : i < v + 2) (hZ : Z.length ≤ 100000) (hv : v ≤ 100000) (hz : Z[i]? = some w) (hw : 0 ≤ w ∧ w ≤ 40000000) (hby : 0 ≤ by_ ∧ by_ ≤ 200000) (ho : out.length = Z.length) (d : Hs base V h0 h D (rSl P a Z :: rW base c out :: R))
  (hc : ∀ h1, Hs base V h0 h1 D (rSl P a Z :: rW base c (out.set i (movW w by_)) :: R) → Wp (run (Et base) 137 [.slice a Z.length Z.length, .slice c Z.length Z.length, .int .i64 w, .int .i64 by_] h1) fun o => o.1 = .tuple #[] ∧ Hs base V h0 o.2 D (rSl P a Z :: rW base c out2 :: R)) :
  Wp (B137_2 base [some (.slice a Z.length Z.length), some (.slice c Z.length Z.length), some (.int .i64 by_), some (.int .i64 (v : Int)), some (.int .i64 (i : Int))] h) fun o => o.1 = 0 ∧ o.2.1 = [some (.slice a Z.length Z.length), some (.slice c Z.length Z.length), some (.int .i64 by_), some (.int .i64 (v : Int)), some (.int .i64 ((i + 1 : Nat) : Int))] ∧ Hs base V h0 o.2.2 D (rSl P a Z :: rW base c out2 :: R) := by
 obtain ⟨hl2, ad2, rfl, g2⟩ := d.rdW hz
 rw [B137_2_eq]
 rw [w64i (n := (v : Int) + 2) (by omega) (by omega), w64i (n := (i : Int) + 1) (by omega) (by omega)]
 refine W.ifT (decide_eq_true (by omega)) (W.ifT ⟨by omega, by omega⟩ (W.bs rfl (W.bI (by rw [Int.toNat_natCast, Nat.mul_one]; exact g2) ?_)))
 refine W.bs (l6Moved_run hw (by omega)) (W.bI rfl (W.ifT ⟨by omega, by omega⟩ ?_))
 obtain ⟨ad3, h5, ea, ew, d, _⟩ := d.setW (i := 1) (j := i) (v := movW w by_) rfl (by omega)
 subst ea
 refine W.bs rfl (W.bs (by rw [Int.toNat_natCast, Nat.mul_one]; exact ew) ?_)
 obtain ⟨_, ad4, e4, g4⟩ := d.rdW hz
 injection e4 with e4
 subst e4
 refine W.ifT ⟨by omega, by omega⟩ (W.bs rfl (W.bI (by rw [Int.toNat_natCast, Nat.mul_one]; exact g4) ?_))
 refine W.wb (hc _ d) ?_
 rintro ⟨o1, h6⟩ ⟨y1, d6⟩
 simp only at y1 d6
 subst y1
 exact W.bs rfl (W.ret ⟨rfl, rfl, d6⟩)
theorem shTup_loop {base f : Nat} (ih : ShR base f) {Z : List Int} {P : Fp} {a : Option Addr} {V : Fp} {h0 : AH} {D : Ds} {R : List Rs} {c : Option Addr} {v n : Nat} {by_ : Int} (hv : Z[v]? = some (n : Int)) (hZ : Z.length ≤ 100000) (hn : n ≤ 8) (hby : 0 ≤ by_ ∧ by_ ≤ 200000) : ∀ (r : List Tm) (ci bb : Nat) (ats : List ByteArray) (out : List Int) (h : AH), (∀ t ∈ r, Wf f t) → Has Z ci (sgT (sg f) r bb ats).ws → Has Z bb (sgT (sg f) r bb ats).seg → ci + r.length ≤ bb → bb + (sgT (sg f) r bb ats).seg.length ≤ Z.length → ci + r.length = v + 1 + n → out.length = Z.length → Hs base V h0 h D (rSl P a Z :: rW base c out :: R) →
  Wp (loopL (B137_1 base) [some (.slice a Z.length Z.length), some (.slice c Z.length Z.length), some (.int .i64 by_), some (.int .i64 (v : Int)), some (.int .i64 (ci : Int))] h) fun o => o.1 = 5 ∧ Hs base V h0 o.2.2 D (rSl P a Z :: rW base c (spl (spl out ci (sgT (sg f) r (bb + by_) ats).ws) bb (sgT (sg f) r (bb + by_) ats).seg) :: R)
 | [], ci, bb, ats, out, h, hwf, h1, h2, h3, h4, h5, ho, d => by
  obtain ⟨hl1, ad, rfl, g⟩ := d.rdW hv
  simp only [List.length_nil] at h5
  suffices w1 : Wp (B137_1 base [some (.slice (some ad) Z.length Z.length), some (.slice c Z.length Z.length), some (.int .i64 by_), some (.int .i64 (v : Int)), some (.int .i64 (ci : Int))] h) fun o => o = (5, [], h) by
   obtain ⟨o, e, rfl⟩ := w1
   refine ⟨_, loop_off (by decide) e, rfl, ?_⟩
   simp only [sgT, spl_nil]
   exact d
  rw [B137_1_eq]
  refine W.ifT ⟨by omega, by omega⟩ (W.bs rfl (W.bI (by rw [Int.toNat_natCast, Nat.mul_one]; exact g) ?_))
  rw [w64i (n := (v : Int) + n) (by omega) (by omega)]
  exact W.ifF (by simp; omega) (W.ret rfl)
 | t :: r, ci, bb, ats, out, h, hwf, h1, h2, h3, h4, h5, ho, d => by
  simp only [List.length_cons] at h3 h5
  rw [sgT] at h1 h2 h4
  simp only at h1 h2 h4
  rw [sgT]
  simp only
  have hq := sg_ind f t bb (bb + by_) ats
  obtain ⟨hm, hw1, hw2⟩ := sg_word (f := f) (t := t) (b := bb) (by_ := by_) (ats := ats) (by omega) (by omega)
  obtain ⟨i1, i2⟩ := h1.cons
  obtain ⟨j1, j2⟩ := h2.app
  rw [List.length_append] at h4
  have hc := ih t bb by_ ats Z (out.set ci (movW (sg f bb ats t).word by_)) P a c V h0
  rw [← hq.1, ← hq.2.2]
  have e1 : (bb : Int) + by_ + ((sg f bb ats t).seg.length : Int) = ((bb + (sg f bb ats t).seg.length : Nat) : Int) + by_ := by omega
  have e2 : ((bb : Int) + ((sg f bb ats t).seg.length : Int)) = ((bb + (sg f bb ats t).seg.length : Nat) : Int) := by omega
  rw [e1]
  rw [e2] at i2 j2 h4
  have hqi := sgT_ind (sg_ind f) r ((bb + (sg f bb ats t).seg.length : Nat) : Int) (((bb + (sg f bb ats t).seg.length : Nat) : Int) + by_) (sg f bb ats t).ats
  have w1 := shCell1 (out2 := spl (out.set ci (movW (sg f bb ats t).word by_)) bb (sg f (bb + by_) ats t).seg) hv (i := ci) (by omega) hZ hn i1 ⟨hw1, hw2⟩ hby ho d fun h1 d1 => hc h1 D R (hwf t (.head _)) j1 (by omega) hZ (by rw [List.length_set]; exact ho) hby d1
  obtain ⟨⟨o1, o2, h'⟩, e, y1, y2, d'⟩ := w1
  simp only at y1 y2 d'
  subst y1; subst y2
  obtain ⟨o, eo, q1, q2⟩ := shTup_loop ih hv hZ hn hby r (ci + 1) (bb + (sg f bb ats t).seg.length) (sg f bb ats t).ats _ h' (fun u hu => hwf u (.tail _ hu)) i2 j2 (by omega) (by omega) (by omega) (by rw [spl_len (by rw [List.length_set]; omega), List.length_set]; exact ho) d'
  refine ⟨o, loop_on e eo, q1, ?_⟩
  rw [spl_step hq.2.2 (by rw [sgT_len]; omega) (by omega), hm] at q2
  exact q2
end Go.Proofs.Ytjmkbglnjklbcaa.Am
set_option linter.unusedSimpArgs false
set_option linter.unusedVariables false
namespace Go.Proofs.Ytjmkbglnjklbcaa.Am
open Go Go.RowKit
theorem spl_set {o s : List Int} {p i : Nat} {v : Int} (h1 : i < p) (h2 : p + s.length ≤ o.length) : (spl o p s).set i v = spl (o.set i v) p s := by
 rw [spl_one (by rw [spl_len h2]; omega), spl_one (by omega)]
 exact (spl_com (p := i) (s := [v]) (by simp only [List.length_singleton]; omega) h2).symm
theorem spl_cons {o s : List Int} {p : Nat} {v : Int} (h : p + 1 + s.length ≤ o.length) : spl (o.set p v) (p + 1) s = spl o p (v :: s) := by
 rw [spl_one (by omega)]
 exact spl_adj (s := [v]) (by simp only [List.length_singleton]; omega)
theorem spl_step2 {o L s1 sgs : List Int} {w l : Int} {c bb m : Nat} (hm : m = s1.length) (h1 : c + 2 + L.length ≤ bb) (h2 : bb + s1.length + sgs.length ≤ o.length) : spl (spl ((spl (o.set c w) bb s1).set (c + 1) l) (c + 2) L) (bb + m) sgs = spl (spl o c (w :: l :: L)) bb (s1 ++ sgs) := by
 rw [spl_set (by omega) (by rw [List.length_set]; omega)]
 have e := spl_step (o := o.set c w) (ws := L) (sg1 := s1) (sgs := sgs) (w := l) (c := c + 1) (bb := bb) hm (by omega) (by rw [List.length_set]; omega)
 rw [show c + 2 = c + 1 + 1 from rfl, e, spl_cons (by simp only [List.length_cons]; omega)]
theorem shCons_run {base f : Nat} (ih : ShR base f) {Z : List Int} {P : Fp} {a : Option Addr} {V : Fp} {h0 : AH} {D : Ds} {R : List Rs} {c : Option Addr} {by_ : Int} (hZ : Z.length ≤ 100000) (hby : 0 ≤ by_ ∧ by_ ≤ 200000) : ∀ (r : List Tm) (ci bb : Nat) (ats : List ByteArray) (out : List Int) (h : AH), r ≠ [] → (∀ t ∈ r, Wf f t) → Has Z ci (lnk ci (sgT (sg f) r bb ats).ws) → Has Z bb (sgT (sg f) r bb ats).seg → ci + 2 * r.length ≤ bb → bb + (sgT (sg f) r bb ats).seg.length ≤ Z.length → out.length = Z.length → Hs base V h0 h D (rSl P a Z :: rW base c out :: R) →
  Wp (run (Et base) 137 [.slice a Z.length Z.length, .slice c Z.length Z.length, .int .i64 (mkW 5 ci), .int .i64 by_] h) fun o => o.1 = .tuple #[] ∧ Hs base V h0 o.2 D (rSl P a Z :: rW base c (spl (spl out ci (lnk (ci + by_) (sgT (sg f) r (bb + by_) ats).ws)) bb (sgT (sg f) r (bb + by_) ats).seg) :: R)
 | [], ci, bb, ats, out, h, hne, hwf, h1, h2, h3, h4, ho, d => absurd rfl hne
 | t :: r, ci, bb, ats, out, h, hne, hwf, h1, h2, h3, h4, ho, d => by
  simp only [List.length_cons] at h3
  rw [sgT] at h1 h2 h4
  simp only [lnk] at h1
  simp only at h2 h4
  have hq := sg_ind f t bb (bb + by_) ats
  obtain ⟨hm, hw1, hw2⟩ := sg_word (f := f) (t := t) (b := bb) (by_ := by_) (ats := ats) (by omega) (by omega)
  obtain ⟨i1, i2⟩ := h1.cons
  obtain ⟨i2, i3⟩ := i2.cons
  obtain ⟨j1, j2⟩ := h2.app
  rw [List.length_append] at h4
  have e1 : (bb : Int) + by_ + ((sg f bb ats t).seg.length : Int) = ((bb + (sg f bb ats t).seg.length : Nat) : Int) + by_ := by omega
  have e2 : ((bb : Int) + ((sg f bb ats t).seg.length : Int)) = ((bb + (sg f bb ats t).seg.length : Nat) : Int) := by omega
  rw [e2] at i2 i3 j2 h4
  have hqi := sgT_ind (sg_ind f) r ((bb + (sg f bb ats t).seg.length : Nat) : Int) (((bb + (sg f bb ats t).seg.length : Nat) : Int) + by_) (sg f bb ats t).ats
  obtain ⟨tg, vl, u1, u2⟩ := mk_tag (t := 5) (v := (ci : Int)) (by omega) (by omega)
  have w1 := shCell2 (base := base) (h := h) (v := ci) (out2 := spl (out.set ci (movW (sg f bb ats t).word by_)) bb (sg f (bb + by_) ats t).seg) (i := ci) (by omega) hZ (by omega) i1 ⟨hw1, hw2⟩ hby ho d fun h1 d1 => ih t bb by_ ats Z _ P a c V h0 h1 D R (hwf t (.head _)) j1 (by omega) hZ (by rw [List.length_set]; exact ho) hby d1
  obtain ⟨⟨o1, o2, ha⟩, ea, y1, y2, da⟩ := w1
  simp only at y1 y2 da
  subst y1; subst y2
  have hlo : (spl (out.set ci (movW (sg f bb ats t).word by_)) bb (sg f (bb + by_) ats t).seg).length = Z.length := by
   rw [spl_len (by rw [List.length_set]; omega), List.length_set]; exact ho
  have fin : ∃ out2, Wp (B137_2 base [some (.slice a Z.length Z.length), some (.slice c Z.length Z.length), some (.int .i64 by_), some (.int .i64 (ci : Int)), some (.int .i64 ((ci + 1 : Nat) : Int))] ha) (fun o => o.1 = 0 ∧ o.2.1 = [some (.slice a Z.length Z.length), some (.slice c Z.length Z.length), some (.int .i64 by_), some (.int .i64 (ci : Int)), some (.int .i64 ((ci + 1 + 1 : Nat) : Int))] ∧ Hs base V h0 o.2.2 D (rSl P a Z :: rW base c out2 :: R)) ∧ out2 = spl (spl out ci (lnk (ci + by_) (sgT (sg f) (t :: r) (bb + by_) ats).ws)) bb (sgT (sg f) (t :: r) (bb + by_) ats).seg := by
   by_cases hr : r = []
   ·subst hr
    simp only [sgT, if_true] at i2
    refine ⟨_, shCell2 (base := base) (h := ha) (v := ci) (i := ci + 1) (out2 := (spl (out.set ci (movW (sg f bb ats t).word by_)) bb (sg f (bb + by_) ats t).seg).set (ci + 1) 3) (by omega) hZ (by omega) i2 (by omega) hby hlo da fun h1 d1 => ?_, ?_⟩
    ·refine W.imp ?_ (shLow (w := 3) (by omega) (by decide))
     rintro ⟨o1, o2⟩ e
     injection e with e e'
     subst e; subst e'
     exact ⟨rfl, d1⟩
    ·have e := spl_step2 (o := out) (L := []) (s1 := (sg f (bb + by_) ats t).seg) (sgs := []) (w := movW (sg f bb ats t).word by_) (l := 3) (c := ci) (bb := bb) rfl (by simp only [List.length_nil] at h3 ⊢; omega) (by simp only [List.length_nil]; omega)
     rw [spl_nil, spl_nil] at e
     rw [e, hm]
     simp [sgT, lnk]
   ·have hwne : (sgT (sg f) r ((bb + (sg f bb ats t).seg.length : Nat) : Int) (sg f bb ats t).ats).ws ≠ [] := by
     intro e
     have := sgT_len (g := sg f) r ((bb + (sg f bb ats t).seg.length : Nat) : Int) (sg f bb ats t).ats
     rw [e] at this
     exact hr (List.eq_nil_of_length_eq_zero this.symm)
    rw [if_neg hwne] at i2
    have hmv : movW (mkW 5 ((ci : Int) + 2)) by_ = mkW 5 ((ci : Int) + 2 + by_) := mov_mk (by omega) (by omega)
    have hmb := (mk_tag (t := 5) (v := (ci : Int) + 2) (by omega) (by omega)).2.2
    have hz := fun (h1 : AH) (d1 : Hs base V h0 h1 D (rSl P a Z :: rW base c ((spl (out.set ci (movW (sg f bb ats t).word by_)) bb (sg f (bb + by_) ats t).seg).set (ci + 1) (movW (mkW 5 ((ci : Int) + 2)) by_)) :: R)) => shCons_run ih hZ hby r (ci + 2) (bb + (sg f bb ats t).seg.length) (sg f bb ats t).ats _ h1 hr (fun u hu => hwf u (.tail _ hu)) i3 j2 (by omega) (by omega) (by rw [List.length_set]; exact hlo) d1
    refine ⟨_, shCell2 (base := base) (h := ha) (v := ci) (i := ci + 1) (by omega) hZ (by omega) i2 hmb hby hlo da hz, ?_⟩
    ·rw [hmv]
     have e := spl_step2 (o := out) (L := lnk (((ci + 2 : Nat) : Int) + by_) (sgT (sg f) r (((bb + (sg f bb ats t).seg.length : Nat) : Int) + by_) (sg f bb ats t).ats).ws) (s1 := (sg f (bb + by_) ats t).seg) (sgs := (sgT (sg f) r (((bb + (sg f bb ats t).seg.length : Nat) : Int) + by_) (sg f bb ats t).ats).seg) (w := movW (sg f bb ats t).word by_) (l := mkW 5 ((ci : Int) + 2 + by_)) (c := ci) (bb := bb) hq.2.2 (by rw [lnk_len, sgT_len]; omega) (by omega)
     rw [e, hm]
     have hwne2 : (sgT (sg f) r (((bb + (sg f bb ats t).seg.length : Nat) : Int) + by_) (sg f bb ats t).ats).ws ≠ [] := by
      intro e
      have := sgT_len (g := sg f) r (((bb + (sg f bb ats t).seg.length : Nat) : Int) + by_) (sg f bb ats t).ats
      rw [e] at this
      exact hr (List.eq_nil_of_length_eq_zero this.symm)
     rw [sgT]
     simp only [lnk]
     rw [← hq.1, ← hq.2.2, e1, if_neg hwne2, show (ci : Int) + by_ + 2 = (ci : Int) + 2 + by_ from by omega, show ((ci + 2 : Nat) : Int) + by_ = (ci : Int) + 2 + by_ from by omega]
  obtain ⟨out2, ⟨⟨o1, o2, hb'⟩, eb, y1, y2, db⟩, eo⟩ := fin
  simp only at y1 y2 db
  subst y1; subst y2
  rw [eo] at db
  refine W.of (fun r hx => Am.r137 hx) ?_
  refine W.bs (specVal_run (by omega)) (W.bI rfl (W.bs specTag_run (W.bI rfl ?_)))
  rw [tg, vl]
  refine W.ifF (by decide) (W.ifF (by decide) (W.ifT (by decide) ?_))
  have ec : B137_2 base [some (.slice a Z.length Z.length), some (.slice c Z.length Z.length), some (.int .i64 by_), some (.int .i64 (ci : Int)), some (.int .i64 ((ci + 1 + 1 : Nat) : Int))] hb' = some (7, [], hb') := by
   rw [B137_2_eq, w64i (n := (ci : Int) + 2) (by omega) (by omega)]
   exact ifF (by simp; omega) rfl
  exact W.bs (loop_on ea (loop_on eb (loop_off (by decide) ec))) (W.ifT rfl (W.ret ⟨rfl, db⟩))
theorem sh_succ {base f : Nat} (ih : ShR base f) : ShR base (f + 1) := by
 intro t b by_ ats Z out P a c V h0 h D R hwf hh hl hZ ho hby d
 obtain ⟨k, n, s, l⟩ := t
 obtain ⟨hsh, hch⟩ := hwf.open
 obtain ⟨ks, k0, k1, k3, k4, k5, k6⟩ := sh_kinds hsh
 rw [sg] at hh hl ⊢
 have low : ∀ {w : Int}, 0 ≤ w ∧ w ≤ 40000000 → tagW w ≤ 3 → Wp (run (Et base) 137 [.slice a Z.length Z.length, .slice c Z.length Z.length, .int .i64 w, .int .i64 by_] h) fun o => o.1 = .tuple #[] ∧ Hs base V h0 o.2 D (rSl P a Z :: rW base c (spl out b []) :: R) := fun hw ht => W.imp (by
  rintro ⟨o1, o2⟩ e
  injection e with e e'
  subst e; subst e'
  rw [spl_nil]
  exact ⟨rfl, d⟩) (shLow hw ht)
 by_cases c1 : k = 1
 ·simp only [if_pos c1] at hh hl ⊢
  rw [sg]
  simp only [if_pos c1]
  have := mk_low (t := 0) (v := n + 1000000) (by omega)
  exact low this.2 this.1
 simp only [if_neg c1] at hh hl ⊢
 by_cases c2 : k = 2
 ·simp only [if_pos c2] at hh hl ⊢
  rw [sg]
  simp only [if_neg c1, if_pos c2]
  have := mk_low (t := 1) (v := (addA ats s).2) (by omega)
  exact low this.2 this.1
 simp only [if_neg c2] at hh hl ⊢
 by_cases c3 : k = 3
 ·simp only [if_pos c3] at hh hl ⊢
  rw [sg]
  simp only [if_neg c1, if_neg c2, if_pos c3]
  have := mk_low (t := 2) (v := n) (by omega)
  exact low this.2 this.1
 simp only [if_neg c3] at hh hl ⊢
 by_cases c6 : k = 6
 ·simp only [if_pos c6] at hh hl ⊢
  rw [sg]
  simp only [if_neg c1, if_neg c2, if_neg c3, if_pos c6]
  have hbl := bsL_len s
  have hs40 := k6 c6
  simp only [List.length_cons] at hl
  obtain ⟨tg, vl, u1, u2⟩ := mk_tag (t := 6) (v := (b : Int)) (by omega) (by omega)
  refine W.of (fun r hx => Am.r137 hx) ?_
  refine W.bs (specVal_run (by omega)) (W.bI rfl (W.bs specTag_run (W.bI rfl ?_)))
  rw [tg, vl]
  refine W.ifT (by decide) ?_
  refine W.wb (shBin_loop (base := base) (b := b) (n := s.size) (s := (s.size : Int) :: bsL s) (by simp [hbl]) hs40 hh (hh.cons).1 hZ (by simp only [List.length_cons]; omega) ho (s.size + 1) 0 h (by omega) (by rw [List.take_zero, spl_nil]; exact d)) ?_
  rintro ⟨o1, o2, h5⟩ ⟨y1, d5⟩
  simp only at y1 d5
  subst y1
  exact W.ifT rfl (W.ret ⟨rfl, d5⟩)
 simp only [if_neg c6] at hh hl ⊢
 by_cases c4 : k = 4
 ·simp only [if_pos c4] at hh hl ⊢
  rw [sg]
  simp only [if_neg c1, if_neg c2, if_neg c3, if_neg c6, if_pos c4]
  have hl8 := k4 c4
  obtain ⟨i1, i2⟩ := hh.cons
  obtain ⟨i2, i3⟩ := i2.app
  simp only [List.length_cons, List.length_append] at hl
  rw [sgT_len] at i3 hl
  have e1 : (b : Int) + 1 + (l.length : Int) = ((b + 1 + l.length : Nat) : Int) := by omega
  have e2 : (b : Int) + by_ + 1 + (l.length : Int) = ((b + 1 + l.length : Nat) : Int) + by_ := by omega
  rw [e1] at i2 i3 hl
  have hqi := sgT_ind (sg_ind f) l ((b + 1 + l.length : Nat) : Int) (((b + 1 + l.length : Nat) : Int) + by_) ats
  obtain ⟨tg, vl, u1, u2⟩ := mk_tag (t := 4) (v := (b : Int)) (by omega) (by omega)
  obtain ⟨hl1, ad, rfl, g⟩ := d.rdW i1
  refine W.of (fun r hx => Am.r137 hx) ?_
  refine W.bs (specVal_run (by omega)) (W.bI rfl (W.bs specTag_run (W.bI rfl ?_)))
  rw [tg, vl]
  refine W.ifF (by decide) (W.ifT (by decide) ?_)
  refine W.ifT ⟨by omega, by omega⟩ (W.bs rfl (W.bI (by rw [Int.toNat_natCast, Nat.mul_one]; exact g) (W.ifT ⟨by omega, by omega⟩ ?_)))
  obtain ⟨ad3, h5, ea, ew, d, _⟩ := d.setW (i := 1) (j := b) (v := (l.length : Int)) rfl (by omega)
  subst ea
  refine W.bs rfl (W.bs (by rw [Int.toNat_natCast, Nat.mul_one]; exact ew) ?_)
  rw [w64i (n := (b : Int) + 1) (by omega) (by omega)]
  refine W.wb (shTup_loop ih i1 hZ hl8 hby l (b + 1) (b + 1 + l.length) ats _ h5 hch i2 i3 (by omega) (by omega) (by omega) (by rw [List.length_set]; exact ho) d) ?_
  rintro ⟨o1, o2, h6⟩ ⟨y1, d6⟩
  simp only at y1 d6
  subst y1
  refine W.ifT rfl (W.ret ⟨rfl, ?_⟩)
  rw [e2]
  have e3 : spl (spl (out.set b (l.length : Int)) (b + 1) (sgT (sg f) l (((b + 1 + l.length : Nat) : Int) + by_) ats).ws) (b + 1 + l.length) (sgT (sg f) l (((b + 1 + l.length : Nat) : Int) + by_) ats).seg = spl out b ((l.length : Int) :: ((sgT (sg f) l (((b + 1 + l.length : Nat) : Int) + by_) ats).ws ++ (sgT (sg f) l (((b + 1 + l.length : Nat) : Int) + by_) ats).seg)) := by
   have hsl := sgT_len (g := sg f) l (((b + 1 + l.length : Nat) : Int) + by_) ats
   have e4 := spl_adj (o := out.set b (l.length : Int)) (p := b + 1) (s := (sgT (sg f) l (((b + 1 + l.length : Nat) : Int) + by_) ats).ws) (t := (sgT (sg f) l (((b + 1 + l.length : Nat) : Int) + by_) ats).seg) (by rw [List.length_set]; omega)
   rw [hsl] at e4
   rw [e4, spl_cons (by rw [List.length_append]; omega)]
  rw [← e3]
  exact d6
 simp only [if_neg c4] at hh hl ⊢
 by_cases cl : l = []
 ·simp only [if_pos cl] at hh hl ⊢
  rw [sg]
  simp only [if_neg c1, if_neg c2, if_neg c3, if_neg c6, if_neg c4, if_pos cl]
  exact low (by decide) (by decide)
 simp only [if_neg cl] at hh hl ⊢
 rw [sg]
 simp only [if_neg c1, if_neg c2, if_neg c3, if_neg c6, if_neg c4, if_neg cl]
 obtain ⟨i1, i2⟩ := hh.app
 rw [lnk_len, sgT_len] at i2
 rw [List.length_append, lnk_len, sgT_len] at hl
 have e1 : (b : Int) + 2 * (l.length : Int) = ((b + 2 * l.length : Nat) : Int) := by omega
 have e2 : (b : Int) + by_ + 2 * (l.length : Int) = ((b + 2 * l.length : Nat) : Int) + by_ := by omega
 rw [e1] at i1 i2 hl
 rw [e2]
 have hqi := sgT_ind (sg_ind f) l ((b + 2 * l.length : Nat) : Int) (((b + 2 * l.length : Nat) : Int) + by_) ats
 refine W.imp ?_ (shCons_run ih hZ hby l b (b + 2 * l.length) ats out h cl hch i1 i2 (by omega) (by omega) ho d)
 rintro ⟨o1, o2⟩ ⟨y1, y2⟩
 refine ⟨y1, ?_⟩
 have e4 := spl_adj (o := out) (p := b) (s := lnk ((b : Int) + by_) (sgT (sg f) l (((b + 2 * l.length : Nat) : Int) + by_) ats).ws) (t := (sgT (sg f) l (((b + 2 * l.length : Nat) : Int) + by_) ats).seg) (by rw [lnk_len, sgT_len]; omega)
 rw [lnk_len, sgT_len] at e4
 rw [← e4]
 exact y2
theorem sh_run {base : Nat} : ∀ f, ShR base f
 | 0 => fun t b by_ ats Z out P a c V h0 h D R hwf _ _ _ _ _ _ => by obtain ⟨d, x, _, hx⟩ := hwf; rw [lk] at hx; omega
 | f + 1 => sh_succ (sh_run f)
end Go.Proofs.Ytjmkbglnjklbcaa.Am
set_option linter.unusedSimpArgs false
set_option linter.unusedVariables false
namespace Go.Proofs.Ytjmkbglnjklbcaa.Am
open Go Go.RowKit
theorem Hs.freeze {base : Nat} {V : Fp} {h0 h : AH} {D : Ds} {R : List Rs} {r : Rs} (d : Hs base V h0 h D (r :: R)) : Hs base V h0 h D (⟨r.S, false, r.A⟩ :: R) := by
 refine ⟨d.ge, d.kb, d.own, d.nd, fun s hs => ?_, ?_⟩
 ·rcases List.mem_cons.1 hs with rfl | hs
  ·obtain ⟨a, b, c, _, e⟩ := d.res r (.head _)
   exact ⟨a, b, c, fun h => (nomatch h), e⟩
  ·exact d.res s (.tail _ hs)
 ·have dj := d.dj
  rw [List.pairwise_cons] at dj ⊢
  refine ⟨fun s hs e => ?_, dj.2⟩
  simp only [Bool.false_or] at e
  exact dj.1 s hs (by rw [e]; simp)
theorem Hs.asSl {base : Nat} {V : Fp} {h0 h : AH} {D : Ds} {R : List Rs} {a : Option Addr} {l : List Int} (d : Hs base V h0 h D (rW base a l :: R)) : Hs base V h0 h D (rSl (blk a) a l :: R) := by
 have d := d.freeze
 refine ⟨d.ge, d.kb, d.own, d.nd, fun s hs => ?_, ?_⟩
 ·rcases List.mem_cons.1 hs with rfl | hs
  ·obtain ⟨x, _, c, m, e⟩ := d.res _ (.head _)
   exact ⟨Own.sl x, fun U y y' k hs z => z.keep k hs, c, m, e⟩
  ·exact d.res s (.tail _ hs)
 ·have dj := d.dj
  rw [List.pairwise_cons] at dj ⊢
  exact dj
theorem Del.last {α : Type} {x : α} : ∀ (l : List α), Del (l ++ [x]) x l
 | [] => .here
 | y :: l => .there (Del.last l)
theorem Hs.asW {base b : Nat} {V : Fp} {h0 h : AH} {D D' : Ds} {R : List Rs} {l : List Int} (d : Hs base V h0 h D R) (u : Del D (b, 3, iv .i64 l) D') : Hs base V h0 h D' (rW base (at0 b) l :: R) := by
 have d := (d.unbox u).frontR (Del.last R)
 refine ⟨d.ge, d.kb, d.own, d.nd, fun s hs => ?_, ?_⟩
 ·rcases List.mem_cons.1 hs with rfl | hs
  ·obtain ⟨x, _, c, m, e⟩ := d.res _ (.head _)
   exact ⟨x, fun U y y' k hs z => z.keep k hs, fun i hi => c i (blk_at0.1 hi), fun _ i hi => m rfl i (blk_at0.1 hi), fun y hy hi => e y hy (blk_at0.1 hi)⟩
  ·exact d.res s (.tail _ hs)
 ·have dj := d.dj
  rw [List.pairwise_cons] at dj ⊢
  exact ⟨fun s hs e i hi => dj.1 s hs e i (blk_at0.1 hi), dj.2⟩
theorem spl_all {o s : List Int} (h : s.length = o.length) : spl o 0 s = s := by
 unfold spl
 rw [h, List.take_zero, List.drop_of_length_le (by omega)]
 simp
theorem l6Lay_run {base f at_ sb : Nat} {V : Fp} {h0 h : AH} {p : Fp} {k n : Int} {s : ByteArray} {l : List Tm} {ta aa : Option Addr} {ats : List ByteArray} (hwf : Wf (f + 1) (.mk k n s l)) (hat : at_ ≤ 99000) (hal : ats.length ≤ 1048576) (d : Hs base V h0 h [(sb, 25, [.slice aa ats.length ats.length])] [rTR p (f + 1) (.mk k n s l) (termV k n s ta l.length), rSt base aa ats]) :
  Wp (run (Et base) 81 [.pointer (at0 sb), .agg (termV k n s ta l.length).toArray, .int .i64 (at_ : Int)] h) fun o => ∃ aa' c, o.1 = .tuple #[.slice c (sg (f + 1) (100000 + (at_ : Int)) ats (.mk k n s l)).seg.length (sg (f + 1) (100000 + (at_ : Int)) ats (.mk k n s l)).seg.length, .int .i64 (sg (f + 1) (100000 + (at_ : Int)) ats (.mk k n s l)).word, .bool (sg (f + 1) (100000 + (at_ : Int)) ats (.mk k n s l)).ok] ∧ Hs base V h0 o.2 [(sb, 25, [.slice aa' (sg (f + 1) (100000 + (at_ : Int)) ats (.mk k n s l)).ats.length (sg (f + 1) (100000 + (at_ : Int)) ats (.mk k n s l)).ats.length])] [rTR p (f + 1) (.mk k n s l) (termV k n s ta l.length), rW base c (sg (f + 1) (100000 + (at_ : Int)) ats (.mk k n s l)).seg, rSt base aa' (sg (f + 1) (100000 + (at_ : Int)) ats (.mk k n s l)).ats] := by
 have hnd := hwf.need
 refine W.of (fun r hx => Am.r81 hx) ?_
 ((try simp only [n1, n2, n3, n4, n5, n6] at d); (with_reducible repeat first | refine W.a1 d ?_ | refine W.a2 ?_ | refine W.a3 ?_ | refine W.bo ?_ | refine W.a5 d fun hw d lw kw => ?_ | refine W.a6 d ?_ | refine W.a7 ?_ | refine W.a8 ?_); (refine W.nD d fun h1 d _ kh1 => ?_); (with_reducible repeat first | refine W.a1 d ?_ | refine W.a2 ?_ | refine W.a3 ?_ | refine W.bo ?_ | refine W.a5 d fun hw d lw kw => ?_ | refine W.a6 d ?_ | refine W.a7 ?_ | refine W.a8 ?_); (refine W.nD d fun h2 d _ kh2 => ?_); (with_reducible repeat first | refine W.a1 d ?_ | refine W.a2 ?_ | refine W.a3 ?_ | refine W.bo ?_ | refine W.a5 d fun hw d lw kw => ?_ | refine W.a6 d ?_ | refine W.a7 ?_ | refine W.a8 ?_); (refine W.nD d fun h3 d _ kh3 => ?_); (with_reducible repeat first | refine W.a1 d ?_ | refine W.a2 ?_ | refine W.a3 ?_ | refine W.bo ?_ | refine W.a5 d fun hw d lw kw => ?_ | refine W.a6 d ?_ | refine W.a7 ?_ | refine W.a8 ?_))
 have d := d.asW (l := []) (Del.at (i := 1) rfl)
 simp only [n5, n6] at d
 have d := d.front (Del.at (i := 2) rfl)
 have d := d.front (Del.at (i := 1) rfl)
 simp only [n5, n6] at d
 have d := d.frontR (Del.at (i := 1) rfl)
 simp only [n5, n6] at d
 dsimp only
 have hsw := sg_word (f := f + 1) (t := .mk k n s l) (b := 0) (by_ := 100000 + (at_ : Int)) (ats := ats) (by omega) (by omega)
 have hsi := sg_ind (f + 1) (.mk k n s l) 0 (100000 + (at_ : Int)) ats
 have hsl := sg_len hwf 0 ats
 have d1 := Hs.part (D1 := [_, _]) (R1 := [_, _, _]) (R2 := []) d
 refine W.wb (sput_run (base := base) (f + 1) _ _ _ p _ _ [] ats _ aa _ _ _ hwf (by simp only [List.length_nil]; omega) hal d1) ?_
 rintro ⟨u, h4⟩ ⟨a', aa', y1, d2⟩
 simp only at y1 d2
 subst y1
 have d := Hs.back (D1 := [_, _]) (R1 := [_, _, _]) (R2 := []) d d2 (imP rfl rfl)
 clear d1 d2
 have epg : pt 0 (f + 1) ([], ats) (.mk k n s l) = (((sg (f + 1) 0 ats (.mk k n s l)).seg, (sg (f + 1) 0 ats (.mk k n s l)).ats), (sg (f + 1) 0 ats (.mk k n s l)).word, (sg (f + 1) 0 ats (.mk k n s l)).ok) := by
  have := pt_sg (fr := 0) (f + 1) (.mk k n s l) [] ats
  simpa using this
 rw [epg] at d ⊢
 have hsh := fun a c V h0 h D R => sh_run (base := base) (f + 1) (.mk k n s l) 0 (100000 + (at_ : Int)) ats (sg (f + 1) 0 ats (.mk k n s l)).seg (List.replicate (sg (f + 1) 0 ats (.mk k n s l)).seg.length 0) (blk a) a c V h0 h D R hwf (fun j hj => by rw [Nat.zero_add]; exact List.getElem?_eq_getElem hj) (by rw [Int.natCast_zero]; omega) (by omega) (by simp) (by omega)
 simp only [Int.natCast_zero, Int.zero_add] at hsh
 rw [Int.zero_add] at hsw
 obtain ⟨hs1, hs2, hs3⟩ := hsi
 rw [← hs1, ← hs2]
 rw [← hsw.1]
 generalize (sg (f + 1) (100000 + (at_ : Int)) ats (.mk k n s l)).seg = Q at hs3 hsh ⊢
 generalize sg (f + 1) 0 ats (.mk k n s l) = q at d hsh hsw hs3 hsl ⊢
 rw [← hs3]
 ((try simp only [n1, n2, n3, n4, n5, n6] at d); (with_reducible repeat first | refine W.a1 d ?_ | refine W.a2 ?_ | refine W.a3 ?_ | refine W.bo ?_ | refine W.a5 d fun hw d lw kw => ?_ | refine W.a6 d ?_ | refine W.a7 ?_ | refine W.a8 ?_))
 refine W.ifT ⟨rfl, by omega, by show ((q.seg.length : Nat) : Int) * 8 ≤ _; omega, by show ((q.seg.length : Nat) : Int) ≤ _; omega⟩ ?_
 ((try simp only [n1, n2, n3, n4, n5, n6] at d); (with_reducible repeat first | refine W.a1 d ?_ | refine W.a2 ?_ | refine W.a3 ?_ | refine W.bo ?_ | refine W.a5 d fun hw d lw kw => ?_ | refine W.a6 d ?_ | refine W.a7 ?_ | refine W.a8 ?_); (refine W.nD d fun h5 d _ kh5 => ?_); (with_reducible repeat first | refine W.a1 d ?_ | refine W.a2 ?_ | refine W.a3 ?_ | refine W.bo ?_ | refine W.a5 d fun hw d lw kw => ?_ | refine W.a6 d ?_ | refine W.a7 ?_ | refine W.a8 ?_))
 rw [Int.toNat_natCast, rep_ivs] at d
 rw [Int.toNat_natCast]
 have d := d.asW (l := List.replicate q.seg.length 0) (Del.at (i := 0) rfl)
 simp only [n5, n6] at d
 have d := (d.frontR (Del.at (i := 2) rfl)).asSl
 simp only [n5, n6] at d
 rw [w64i (n := 100000 + (at_ : Int)) (by omega) (by omega)]
 refine W.wb (hsh _ _ _ _ _ _ _ d) ?_
 rintro ⟨u, h6⟩ ⟨y1, d⟩
 simp only at y1 d
 subst y1
 rw [spl_all (by simp; omega)] at d
 refine W.bs rfl ?_
 dsimp only
 refine W.bs (l6Moved_run hsw.2 (by omega)) ?_
 refine W.bI rfl ?_
 have d := ((d.frontR (Del.at (i := 1) rfl)).frontR (Del.at (i := 2) rfl))
 simp only [n5, n6] at d
 have d := ((d.frontR (Del.at (i := 3) rfl)).takeR 3)
 simp only [n5, n6] at d
 have d := ((d.frontR (Del.at (i := 2) rfl)).frontR (Del.at (i := 2) rfl))
 have d := ((d.front (Del.at (i := 1) rfl)).takeD 1)
 exact W.ret ⟨aa', _, rfl, d⟩
end Go.Proofs.Ytjmkbglnjklbcaa.Am
set_option linter.unusedSimpArgs false
set_option linter.unusedVariables false
namespace Go.Proofs.Ytjmkbglnjklbcaa.Am
open Go Go.RowKit
def CopyGR (base F : Nat) : Prop := ∀ (h : AH) (oa ya : Option Addr) (G : Gn), G.old.length ≤ 1048576 → G.young.length ≤ 1048576 → GnS h oa ya G → base ≤ h.length →
  ∃ a b h', run (Et base) F [.agg (gensV oa ya G).toArray] h = some (.agg (gensV a b G).toArray, h') ∧ Hs base NoB h h' [] [rW base a G.old, rW base b G.young]
theorem copyGens_run {base : Nat} : CopyGR base 82 := by
 intro h oa ya G h1 h2 x hb
 have d := Hs.start hb
 suffices W : Wp (run (Et base) 82 [.agg (gensV oa ya G).toArray] h) fun o => ∃ a b, o.1 = .agg (gensV a b G).toArray ∧ Hs base NoB h o.2 [] [rW base a G.old, rW base b G.young] by
  obtain ⟨⟨o1, o2⟩, e, a, b, y1, y2⟩ := W
  simp only at y1 y2
  subst y1
  exact ⟨a, b, o2, e, y2⟩
 refine W.of (fun r hx => Am.r82 hx) ?_
 ((try simp only [n1, n2, n3, n4, n5, n6] at d); (with_reducible repeat first | refine W.a1 d ?_ | refine W.a2 ?_ | refine W.a3 ?_ | refine W.bo ?_ | refine W.a5 d fun hw d lw kw => ?_ | refine W.a6 d ?_ | refine W.a7 ?_ | refine W.a8 ?_); (refine W.nD d fun p1 d _ kp1 => ?_); (with_reducible repeat first | refine W.a1 d ?_ | refine W.a2 ?_ | refine W.a3 ?_ | refine W.bo ?_ | refine W.a5 d fun hw d lw kw => ?_ | refine W.a6 d ?_ | refine W.a7 ?_ | refine W.a8 ?_); (refine W.nD d fun p2 d _ kp2 => ?_); (with_reducible repeat first | refine W.a1 d ?_ | refine W.a2 ?_ | refine W.a3 ?_ | refine W.bo ?_ | refine W.a5 d fun hw d lw kw => ?_ | refine W.a6 d ?_ | refine W.a7 ?_ | refine W.a8 ?_))
 obtain ⟨a4, h4, e4, o4, k4, f4⟩ := copyIntsO_run (base := base) (x.1.keepN d.kb) (by omega) d.ge
 refine W.bs e4 ?_
 have d := d.call k4 (blk a4) (fun y => Own base 3 y a4 (iv .i64 G.old)) o4 (fun U y y' k hs x => x.keep k hs) (fun i hi => ⟨f4 i hi, (o4.lt hi).2⟩)
 ((try simp only [n1, n2, n3, n4, n5, n6] at d); (with_reducible repeat first | refine W.a1 d ?_ | refine W.a2 ?_ | refine W.a3 ?_ | refine W.bo ?_ | refine W.a5 d fun hw d lw kw => ?_ | refine W.a6 d ?_ | refine W.a7 ?_ | refine W.a8 ?_))
 obtain ⟨a5, h5, e5, o5, k5, f5⟩ := copyIntsO_run (base := base) (x.2.keepN d.kb) (by omega) d.ge
 refine W.bs e5 ?_
 have d := d.call k5 (blk a5) (fun y => Own base 3 y a5 (iv .i64 G.young)) o5 (fun U y y' k hs x => x.keep k hs) (fun i hi => ⟨f5 i hi, (o5.lt hi).2⟩)
 ((try simp only [n1, n2, n3, n4, n5, n6] at d); (with_reducible repeat first | refine W.a1 d ?_ | refine W.a2 ?_ | refine W.a3 ?_ | refine W.bo ?_ | refine W.a5 d fun hw d lw kw => ?_ | refine W.a6 d ?_ | refine W.a7 ?_ | refine W.a8 ?_))
 exact W.ret ⟨a4, a5, rfl, d.takeD 0⟩
theorem l6Copy_run {base : Nat} : CopyGR base 80 := by
 intro h oa ya G h1 h2 x hb
 have d := Hs.start hb
 suffices W : Wp (run (Et base) 80 [.agg (gensV oa ya G).toArray] h) fun o => ∃ a b, o.1 = .agg (gensV a b G).toArray ∧ Hs base NoB h o.2 [] [rW base a G.old, rW base b G.young] by
  obtain ⟨⟨o1, o2⟩, e, a, b, y1, y2⟩ := W
  simp only at y1 y2
  subst y1
  exact ⟨a, b, o2, e, y2⟩
 refine W.of (fun r hx => Am.r80 hx) ?_
 ((try simp only [n1, n2, n3, n4, n5, n6] at d); (with_reducible repeat first | refine W.a1 d ?_ | refine W.a2 ?_ | refine W.a3 ?_ | refine W.bo ?_ | refine W.a5 d fun hw d lw kw => ?_ | refine W.a6 d ?_ | refine W.a7 ?_ | refine W.a8 ?_); (refine W.nD d fun p1 d _ kp1 => ?_); (with_reducible repeat first | refine W.a1 d ?_ | refine W.a2 ?_ | refine W.a3 ?_ | refine W.bo ?_ | refine W.a5 d fun hw d lw kw => ?_ | refine W.a6 d ?_ | refine W.a7 ?_ | refine W.a8 ?_); (refine W.nD d fun p2 d _ kp2 => ?_); (with_reducible repeat first | refine W.a1 d ?_ | refine W.a2 ?_ | refine W.a3 ?_ | refine W.bo ?_ | refine W.a5 d fun hw d lw kw => ?_ | refine W.a6 d ?_ | refine W.a7 ?_ | refine W.a8 ?_); (refine W.nD d fun p3 d _ kp3 => ?_); (with_reducible repeat first | refine W.a1 d ?_ | refine W.a2 ?_ | refine W.a3 ?_ | refine W.bo ?_ | refine W.a5 d fun hw d lw kw => ?_ | refine W.a6 d ?_ | refine W.a7 ?_ | refine W.a8 ?_))
 obtain ⟨a4, h4, e4, d⟩ := d.copyG (t := 3) (bytes := 8) (m := G.old.length) (raw_ivs (x.1.keepN d.kb)) (by simp) (by omega) (by omega)
 refine W.bs e4 ?_
 ((try simp only [n1, n2, n3, n4, n5, n6] at d); (with_reducible repeat first | refine W.a1 d ?_ | refine W.a2 ?_ | refine W.a3 ?_ | refine W.bo ?_ | refine W.a5 d fun hw d lw kw => ?_ | refine W.a6 d ?_ | refine W.a7 ?_ | refine W.a8 ?_); (refine W.nD d fun p5 d _ kp5 => ?_); (with_reducible repeat first | refine W.a1 d ?_ | refine W.a2 ?_ | refine W.a3 ?_ | refine W.bo ?_ | refine W.a5 d fun hw d lw kw => ?_ | refine W.a6 d ?_ | refine W.a7 ?_ | refine W.a8 ?_))
 obtain ⟨a6, h6, e6, d⟩ := d.copyG (t := 3) (bytes := 8) (m := G.young.length) (raw_ivs (x.2.keepN d.kb)) (by simp) (by omega) (by omega)
 refine W.bs e6 ?_
 ((try simp only [n1, n2, n3, n4, n5, n6] at d); (with_reducible repeat first | refine W.a1 d ?_ | refine W.a2 ?_ | refine W.a3 ?_ | refine W.bo ?_ | refine W.a5 d fun hw d lw kw => ?_ | refine W.a6 d ?_ | refine W.a7 ?_ | refine W.a8 ?_))
 exact W.ret ⟨a4, a6, rfl, d.takeD 0⟩
def GPutO (base F f : Nat) : Prop := ∀ (h : AH) (p : Nat → Prop) (t : Tm) (cs : List Value) (G : Gn) (ats : List ByteArray) (oa ya aa : Option Addr), TmR h p f t cs → (∀ b, p b → b < h.length) → GnS h oa ya G → Sl h aa (stV ats) → G.old.length ≤ 1048576 → G.young.length ≤ 1048576 → ats.length ≤ 1048576 → base ≤ h.length →
  ∃ a b aa' h', run (Et base) F [.agg (gensV oa ya G).toArray, .slice aa ats.length ats.length, .agg cs.toArray] h = some (.tuple #[.agg (gensV a b ⟨G.old, (putT 100000 1000 f G.young ats t).1.1, G.mark⟩).toArray, .slice aa' (putT 100000 1000 f G.young ats t).1.2.length (putT 100000 1000 f G.young ats t).1.2.length, .int .i64 (putT 100000 1000 f G.young ats t).2.1, .bool (putT 100000 1000 f G.young ats t).2.2], h') ∧ Hs base NoB h h' [] [rW base a G.old, rW base b (putT 100000 1000 f G.young ats t).1.1, rSt base aa' (putT 100000 1000 f G.young ats t).1.2]
theorem putT_ok {fr most : Int} {f : Nat} {w : List Int} {ats : List ByteArray} {t : Tm} (h : (putT fr most f w ats t).2.2 = false) : putT fr most f w ats t = ((w, ats), 0, false) := by
 unfold putT at h ⊢
 split at h
 ·cases h
 ·rename_i c
  rw [if_neg c]
theorem implGPut_run {base f : Nat} : GPutO base 30 f := by
 intro h p t cs G ats oa ya aa hm hp hs has hol hyl hal hb
 have d := Hs.start hb
 suffices W : Wp (run (Et base) 30 [.agg (gensV oa ya G).toArray, .slice aa ats.length ats.length, .agg cs.toArray] h) fun o => ∃ a b aa', o.1 = .tuple #[.agg (gensV a b ⟨G.old, (putT 100000 1000 f G.young ats t).1.1, G.mark⟩).toArray, .slice aa' (putT 100000 1000 f G.young ats t).1.2.length (putT 100000 1000 f G.young ats t).1.2.length, .int .i64 (putT 100000 1000 f G.young ats t).2.1, .bool (putT 100000 1000 f G.young ats t).2.2] ∧ Hs base NoB h o.2 [] [rW base a G.old, rW base b (putT 100000 1000 f G.young ats t).1.1, rSt base aa' (putT 100000 1000 f G.young ats t).1.2] by
  obtain ⟨⟨o1, o2⟩, e, a, b, aa', y1, y2⟩ := W
  simp only at y1 y2
  subst y1
  exact ⟨a, b, aa', o2, e, y2⟩
 obtain ⟨k, n, s, al, m, rfl⟩ := hm.form
 refine W.of (fun r hx => Am.r30 hx) ?_
 ((try simp only [n1, n2, n3, n4, n5, n6] at d); (with_reducible repeat first | refine W.a1 d ?_ | refine W.a2 ?_ | refine W.a3 ?_ | refine W.bo ?_ | refine W.a5 d fun hw d lw kw => ?_ | refine W.a6 d ?_ | refine W.a7 ?_ | refine W.a8 ?_); (refine W.nD d fun h1 d _ kh1 => ?_); (with_reducible repeat first | refine W.a1 d ?_ | refine W.a2 ?_ | refine W.a3 ?_ | refine W.bo ?_ | refine W.a5 d fun hw d lw kw => ?_ | refine W.a6 d ?_ | refine W.a7 ?_ | refine W.a8 ?_); (refine W.nD d fun h2 d _ kh2 => ?_); (with_reducible repeat first | refine W.a1 d ?_ | refine W.a2 ?_ | refine W.a3 ?_ | refine W.bo ?_ | refine W.a5 d fun hw d lw kw => ?_ | refine W.a6 d ?_ | refine W.a7 ?_ | refine W.a8 ?_); (refine W.nD d fun h3 d _ kh3 => ?_); (with_reducible repeat first | refine W.a1 d ?_ | refine W.a2 ?_ | refine W.a3 ?_ | refine W.bo ?_ | refine W.a5 d fun hw d lw kw => ?_ | refine W.a6 d ?_ | refine W.a7 ?_ | refine W.a8 ?_))
 obtain ⟨a4, b4, h4, e4, z⟩ := copyGens_run (base := base) h3 oa ya G hol hyl ⟨hs.1.keepN d.kb, hs.2.keepN d.kb⟩ d.ge
 refine W.bs e4 ?_
 have d := d.call2R z rfl rfl
 simp only [List.nil_append] at d
 ((try simp only [n1, n2, n3, n4, n5, n6] at d); (with_reducible repeat first | refine W.a1 d ?_ | refine W.a2 ?_ | refine W.a3 ?_ | refine W.bo ?_ | refine W.a5 d fun hw d lw kw => ?_ | refine W.a6 d ?_ | refine W.a7 ?_ | refine W.a8 ?_); (refine W.nD d fun h5 d _ kh5 => ?_); (with_reducible repeat first | refine W.a1 d ?_ | refine W.a2 ?_ | refine W.a3 ?_ | refine W.bo ?_ | refine W.a5 d fun hw d lw kw => ?_ | refine W.a6 d ?_ | refine W.a7 ?_ | refine W.a8 ?_))
 obtain ⟨a', aa', h6, e6, z⟩ := implPutT_run (base := base) (fr := 100000) (most := 1000) (hm.keep d.kb (fun _ _ h => h)) (fun b hb => Nat.lt_of_lt_of_le (hp b hb) d.kb.1) (hs.2.keepN d.kb) (has.keepN d.kb) hyl hal (by omega) (by omega) d.ge
 refine W.bs e6 ?_
 have d := d.call2R z rfl rfl
 have hno := putT_ok (fr := 100000) (most := 1000) (f := f) (w := G.young) (ats := ats) (t := t)
 generalize putT 100000 1000 f G.young ats t = q at d hno ⊢
 ((try simp only [n1, n2, n3, n4, n5, n6] at d); (with_reducible repeat first | refine W.a1 d ?_ | refine W.a2 ?_ | refine W.a3 ?_ | refine W.bo ?_ | refine W.a5 d fun hw d lw kw => ?_ | refine W.a6 d ?_ | refine W.a7 ?_ | refine W.a8 ?_))
 dsimp only
 have d := d.takeD 2
 refine W.joinP (fun z => z.1 = [some (.pointer (at0 h2.length)), some (.pointer (at0 h4.length)), some (.slice aa' q.1.2.length q.1.2.length), some (.int .i64 q.2.1), some (.bool q.2.2)] ∧ ∃ b, Hs base NoB h z.2 [(h4.length, 50, gensV a4 b ⟨G.old, q.1.1, G.mark⟩), (h2.length, 50, [.slice none 0 0, .slice none 0 0, .int .i64 0])] [rW base a4 G.old, rW base b q.1.1, rSt base aa' q.1.2]) ?_ ?_
 ·refine W.ite (fun cb => ?_) (fun cb => ?_)
  ·((try simp only [n1, n2, n3, n4, n5, n6] at d); (with_reducible repeat first | refine W.a1 d ?_ | refine W.a2 ?_ | refine W.a3 ?_ | refine W.bo ?_ | refine W.a5 d fun hw d lw kw => ?_ | refine W.a6 d ?_ | refine W.a7 ?_ | refine W.a8 ?_))
   have d := (((d.frontR (Del.at (i := 3) rfl)).frontR (Del.at (i := 3) rfl)).frontR (Del.at (i := 2) rfl)).takeR 3
   exact W.inl ⟨rfl, a', d⟩
  ·have cb : q.2.2 = false := by simpa using cb
   have hq := hno cb
   subst hq
   have d := (d.frontR (Del.at (i := 3) rfl)).takeR 3
   have d := (d.frontR (Del.at (i := 2) rfl)).frontR (Del.at (i := 2) rfl)
   exact W.inl ⟨rfl, b4, d⟩
 rintro ⟨q1, q2⟩ ⟨y1, b, d⟩
 simp only at y1 d
 subst y1
 ((try simp only [n1, n2, n3, n4, n5, n6] at d); (with_reducible repeat first | refine W.a1 d ?_ | refine W.a2 ?_ | refine W.a3 ?_ | refine W.bo ?_ | refine W.a5 d fun hw d lw kw => ?_ | refine W.a6 d ?_ | refine W.a7 ?_ | refine W.a8 ?_))
 exact W.ret ⟨a4, b, aa', rfl, d.takeD 0⟩
end Go.Proofs.Ytjmkbglnjklbcaa.Am
set_option linter.unusedSimpArgs false
set_option linter.unusedVariables false
namespace Go.Proofs.Ytjmkbglnjklbcaa.Am
open Go Go.RowKit
theorem specGPut_run {base f : Nat} : GPutO base 28 f := by
 intro h p t cs G ats oa ya aa hm hp hs has hol hyl hal hb
 have d := Hs.start hb
 have d := d.inp p (fun y => TmR y p f t cs) hm (fun U y y' ky hs x => TmR.keep ky hs _ _ _ x) hp (by simp) rfl
 simp only [List.nil_append] at d
 suffices W : Wp (run (Et base) 28 [.agg (gensV oa ya G).toArray, .slice aa ats.length ats.length, .agg cs.toArray] h) fun o => ∃ a b aa', o.1 = .tuple #[.agg (gensV a b ⟨G.old, (putT 100000 1000 f G.young ats t).1.1, G.mark⟩).toArray, .slice aa' (putT 100000 1000 f G.young ats t).1.2.length (putT 100000 1000 f G.young ats t).1.2.length, .int .i64 (putT 100000 1000 f G.young ats t).2.1, .bool (putT 100000 1000 f G.young ats t).2.2] ∧ Hs base NoB h o.2 [] [rW base a G.old, rW base b (putT 100000 1000 f G.young ats t).1.1, rSt base aa' (putT 100000 1000 f G.young ats t).1.2] by
  obtain ⟨⟨o1, o2⟩, e, a, b, aa', y1, y2⟩ := W
  simp only at y1 y2
  subst y1
  exact ⟨a, b, aa', o2, e, y2⟩
 cases f with
 | zero => exact hm.elim
 | succ f =>
 obtain ⟨k, n, s, l⟩ := t
 have hm0 := hm
 obtain ⟨al, rfl, hts, hsz, hln⟩ := hm.parts
 have hnd : tOk (f + 1) (.mk k n s l) = true → needT (f + 1) (.mk k n s l) ≤ 4100 := fun h => (Wf.of h).need
 refine W.of (fun r hx => Am.r28 hx) ?_
 ((try simp only [n1, n2, n3, n4, n5, n6] at d); (with_reducible repeat first | refine W.a1 d ?_ | refine W.a2 ?_ | refine W.a3 ?_ | refine W.bo ?_ | refine W.a5 d fun hw d lw kw => ?_ | refine W.a6 d ?_ | refine W.a7 ?_ | refine W.a8 ?_); (refine W.nD d fun h1 d _ kh1 => ?_); (with_reducible repeat first | refine W.a1 d ?_ | refine W.a2 ?_ | refine W.a3 ?_ | refine W.bo ?_ | refine W.a5 d fun hw d lw kw => ?_ | refine W.a6 d ?_ | refine W.a7 ?_ | refine W.a8 ?_); (refine W.nD d fun h2 d _ kh2 => ?_); (with_reducible repeat first | refine W.a1 d ?_ | refine W.a2 ?_ | refine W.a3 ?_ | refine W.bo ?_ | refine W.a5 d fun hw d lw kw => ?_ | refine W.a6 d ?_ | refine W.a7 ?_ | refine W.a8 ?_); (refine W.nD d fun h3 d _ kh3 => ?_); (with_reducible repeat first | refine W.a1 d ?_ | refine W.a2 ?_ | refine W.a3 ?_ | refine W.bo ?_ | refine W.a5 d fun hw d lw kw => ?_ | refine W.a6 d ?_ | refine W.a7 ?_ | refine W.a8 ?_))
 obtain ⟨a4, b4, h4, e4, z⟩ := l6Copy_run (base := base) h3 oa ya G hol hyl ⟨hs.1.keepN d.kb, hs.2.keepN d.kb⟩ d.ge
 refine W.bs e4 ?_
 have d := d.call2R z rfl rfl
 ((try simp only [n1, n2, n3, n4, n5, n6] at d); (with_reducible repeat first | refine W.a1 d ?_ | refine W.a2 ?_ | refine W.a3 ?_ | refine W.bo ?_ | refine W.a5 d fun hw d lw kw => ?_ | refine W.a6 d ?_ | refine W.a7 ?_ | refine W.a8 ?_); (refine W.nD d fun h5 d _ kh5 => ?_); (with_reducible repeat first | refine W.a1 d ?_ | refine W.a2 ?_ | refine W.a3 ?_ | refine W.bo ?_ | refine W.a5 d fun hw d lw kw => ?_ | refine W.a6 d ?_ | refine W.a7 ?_ | refine W.a8 ?_); (refine W.nD d fun h6 d _ kh6 => ?_); (with_reducible repeat first | refine W.a1 d ?_ | refine W.a2 ?_ | refine W.a3 ?_ | refine W.bo ?_ | refine W.a5 d fun hw d lw kw => ?_ | refine W.a6 d ?_ | refine W.a7 ?_ | refine W.a8 ?_))
 obtain ⟨a7, h7, e7, d⟩ := d.copyG (t := 9) (bytes := 16) (raw_st (has.keepN d.kb)) (by rw [stV_len]) (by omega) (by omega)
 refine W.bs e7 ?_
 ((try simp only [n1, n2, n3, n4, n5, n6] at d); (with_reducible repeat first | refine W.a1 d ?_ | refine W.a2 ?_ | refine W.a3 ?_ | refine W.bo ?_ | refine W.a5 d fun hw d lw kw => ?_ | refine W.a6 d ?_ | refine W.a7 ?_ | refine W.a8 ?_); (refine W.nD d fun h8 d _ kh8 => ?_); (with_reducible repeat first | refine W.a1 d ?_ | refine W.a2 ?_ | refine W.a3 ?_ | refine W.bo ?_ | refine W.a5 d fun hw d lw kw => ?_ | refine W.a6 d ?_ | refine W.a7 ?_ | refine W.a8 ?_))
 apply W.jb (if (!tOk (f + 1) (.mk k n s l)) = true then true else decide ((G.young.length : Int) + (needT (f + 1) (.mk k n s l) : Int) > 1000)) d
 ·((try simp only [n1, n2, n3, n4, n5, n6] at d); (with_reducible repeat first | refine W.a1 d ?_ | refine W.a2 ?_ | refine W.a3 ?_ | refine W.bo ?_ | refine W.a5 d fun hw d lw kw => ?_ | refine W.a6 d ?_ | refine W.a7 ?_ | refine W.a8 ?_))
  obtain ⟨h9, e9, k9⟩ := specTermOk_run (base := base) (hm0.keep d.kb (fun _ _ h => h)) d.ge
  refine W.bs e9 ?_
  have dk := d
  have d := d.kN k9
  ((try simp only [n1, n2, n3, n4, n5, n6] at d); (with_reducible repeat first | refine W.a1 d ?_ | refine W.a2 ?_ | refine W.a3 ?_ | refine W.bo ?_ | refine W.a5 d fun hw d lw kw => ?_ | refine W.a6 d ?_ | refine W.a7 ?_ | refine W.a8 ?_))
  refine W.ite (fun c => ?_) (fun c => ?_)
  ·rw [if_pos c]
   exact W.lb rfl rfl k9
  rw [if_neg c]
  have hto : tOk (f + 1) (.mk k n s l) = true := by simpa using c
  have hnd := hnd hto
  ((try simp only [n1, n2, n3, n4, n5, n6] at d); (with_reducible repeat first | refine W.a1 d ?_ | refine W.a2 ?_ | refine W.a3 ?_ | refine W.bo ?_ | refine W.a5 d fun hw d lw kw => ?_ | refine W.a6 d ?_ | refine W.a7 ?_ | refine W.a8 ?_))
  obtain ⟨h10, e10, k10⟩ := specNeed_run (base := base) (f + 1) h9 p _ _ (hm0.keep d.kb (fun _ _ h => h)) (Wf.of hto) d.ge
  refine W.bs e10 ?_
  ((try simp only [n1, n2, n3, n4, n5, n6] at d); (with_reducible repeat first | refine W.a1 d ?_ | refine W.a2 ?_ | refine W.a3 ?_ | refine W.bo ?_ | refine W.a5 d fun hw d lw kw => ?_ | refine W.a6 d ?_ | refine W.a7 ?_ | refine W.a8 ?_))
  have d := d.kN k10
  ((try simp only [n1, n2, n3, n4, n5, n6] at d); (with_reducible repeat first | refine W.a1 d ?_ | refine W.a2 ?_ | refine W.a3 ?_ | refine W.bo ?_ | refine W.a5 d fun hw d lw kw => ?_ | refine W.a6 d ?_ | refine W.a7 ?_ | refine W.a8 ?_))
  rw [w64i (n := (G.young.length : Int) + (needT (f + 1) (.mk k n s l) : Int)) (by omega) (by omega)]
  exact W.lb rfl rfl (kN k9 k10)
 intro h9 d n9
 rw [roomT_spec]
 ((try simp only [n1, n2, n3, n4, n5, n6] at d); (with_reducible repeat first | refine W.a1 d ?_ | refine W.a2 ?_ | refine W.a3 ?_ | refine W.bo ?_ | refine W.a5 d fun hw d lw kw => ?_ | refine W.a6 d ?_ | refine W.a7 ?_ | refine W.a8 ?_))
 refine W.ite (fun c => ?_) (fun c => ?_)
 ·have c : roomT 1000 (f + 1) G.young (.mk k n s l) = false := by simpa using c
  rw [putT_no c]
  ((try simp only [n1, n2, n3, n4, n5, n6] at d); (with_reducible repeat first | refine W.a1 d ?_ | refine W.a2 ?_ | refine W.a3 ?_ | refine W.bo ?_ | refine W.a5 d fun hw d lw kw => ?_ | refine W.a6 d ?_ | refine W.a7 ?_ | refine W.a8 ?_))
  have d := (((d.frontR (Del.at (i := 3) rfl)).frontR (Del.at (i := 3) rfl)).frontR (Del.at (i := 3) rfl)).takeR 3
  exact W.ret ⟨a4, b4, a7, rfl, d.takeD 0⟩
 have c : roomT 1000 (f + 1) G.young (.mk k n s l) = true := by simpa using c
 rw [putT_yes c]
 unfold roomT at c
 rw [Bool.and_eq_true] at c
 obtain ⟨hto, hrm⟩ := c
 have hrm := of_decide_eq_true hrm
 have hwf := Wf.of hto
 rw [pt_sg (f + 1) (.mk k n s l)]
 ((try simp only [n1, n2, n3, n4, n5, n6] at d); (with_reducible repeat first | refine W.a1 d ?_ | refine W.a2 ?_ | refine W.a3 ?_ | refine W.bo ?_ | refine W.a5 d fun hw d lw kw => ?_ | refine W.a6 d ?_ | refine W.a7 ?_ | refine W.a8 ?_))
 have d := (d.frontR (Del.at (i := 3) rfl)).frontR (Del.at (i := 1) rfl)
 simp only [n5, n6] at d
 have d1 := Hs.part (D1 := [_]) (R1 := [_, _]) d
 refine W.wb (l6Lay_run (base := base) (at_ := G.young.length) hwf (by omega) hal d1) ?_
 rintro ⟨u, h10⟩ ⟨aa', c, y1, d2⟩
 simp only at y1 d2
 subst y1
 have d := Hs.back (D1 := [_]) (R1 := [_, _]) d d2 (imP rfl rfl)
 clear d1 d2
 have hsl := sg_len hwf (100000 + (G.young.length : Int)) ats
 generalize sg (f + 1) (100000 + (G.young.length : Int)) ats (.mk k n s l) = q at d hsl ⊢
 ((try simp only [n1, n2, n3, n4, n5, n6] at d); (with_reducible repeat first | refine W.a1 d ?_ | refine W.a2 ?_ | refine W.a3 ?_ | refine W.bo ?_ | refine W.a5 d fun hw d lw kw => ?_ | refine W.a6 d ?_ | refine W.a7 ?_ | refine W.a8 ?_))
 dsimp only
 refine W.ite (fun cb => ?_) (fun cb => ?_)
 ·have cb : q.ok = false := by simpa using cb
  rw [cb, if_neg (by decide)]
  ((try simp only [n1, n2, n3, n4, n5, n6] at d); (with_reducible repeat first | refine W.a1 d ?_ | refine W.a2 ?_ | refine W.a3 ?_ | refine W.bo ?_ | refine W.a5 d fun hw d lw kw => ?_ | refine W.a6 d ?_ | refine W.a7 ?_ | refine W.a8 ?_); (refine W.nD d fun h12 d _ kh12 => ?_); (with_reducible repeat first | refine W.a1 d ?_ | refine W.a2 ?_ | refine W.a3 ?_ | refine W.bo ?_ | refine W.a5 d fun hw d lw kw => ?_ | refine W.a6 d ?_ | refine W.a7 ?_ | refine W.a8 ?_))
  obtain ⟨a13, h13, e13, d⟩ := d.copyG (t := 9) (bytes := 16) (raw_st (has.keepN d.kb)) (by rw [stV_len]) (by omega) (by omega)
  refine W.bs e13 ?_
  ((try simp only [n1, n2, n3, n4, n5, n6] at d); (with_reducible repeat first | refine W.a1 d ?_ | refine W.a2 ?_ | refine W.a3 ?_ | refine W.bo ?_ | refine W.a5 d fun hw d lw kw => ?_ | refine W.a6 d ?_ | refine W.a7 ?_ | refine W.a8 ?_))
  have d := (((d.frontR (Del.at (i := 5) rfl)).frontR (Del.at (i := 5) rfl)).frontR (Del.at (i := 5) rfl)).takeR 3
  exact W.ret ⟨a4, b4, a13, rfl, d.takeD 0⟩
 ·have cb : q.ok = true := by simpa using cb
  rw [cb, if_pos rfl]
  ((try simp only [n1, n2, n3, n4, n5, n6] at d); (with_reducible repeat first | refine W.a1 d ?_ | refine W.a2 ?_ | refine W.a3 ?_ | refine W.bo ?_ | refine W.a5 d fun hw d lw kw => ?_ | refine W.a6 d ?_ | refine W.a7 ?_ | refine W.a8 ?_))
  obtain ⟨a', h11, e11, d, _⟩ := d.extW (i := 4) (m := q.seg.length) (new := q.seg) rfl (raw_ivs (Own.sl (d.rs (i := 1) rfl))) rfl (by omega)
  refine W.bs e11 ?_
  ((try simp only [n1, n2, n3, n4, n5, n6] at d); (with_reducible repeat first | refine W.a1 d ?_ | refine W.a2 ?_ | refine W.a3 ?_ | refine W.bo ?_ | refine W.a5 d fun hw d lw kw => ?_ | refine W.a6 d ?_ | refine W.a7 ?_ | refine W.a8 ?_))
  rw [show G.young.length + q.seg.length = (G.young ++ q.seg).length from by simp] at d
  have d := (((d.frontR (Del.at (i := 2) rfl)).frontR (Del.at (i := 4) rfl)).frontR (Del.at (i := 4) rfl)).takeR 3
  exact W.ret ⟨a4, a', aa', by simp, d.takeD 0⟩
end Go.Proofs.Ytjmkbglnjklbcaa.Am
set_option linter.unusedSimpArgs false
set_option linter.unusedVariables false
namespace Go.Proofs.Ytjmkbglnjklbcaa.Am
open Go Go.RowKit
def marksS (k n : Nat) : List ByteArray := (List.range n).map fun i => mt ((k + i : Nat) : Int)
theorem marksS_length (k n : Nat) : (marksS k n).length = n := by simp [marksS]
theorem marksS_get {k n i : Nat} (h : i < (marksS k n).length) : (marksS k n)[i] = mt ((k + i : Nat) : Int) := by simp [marksS]
theorem markStringS_loop {base : Nat} {a : Option Addr} {n k : Nat} (hn : n ≤ 1000000000) (hk : k ≤ 1000000000) : ∀ (d i : Nat) (h : AH), i + d = n → ∀ rest : List ByteArray, rest.length = d → Own base 9 h a (stV (marksS k i ++ rest)) →
  ∃ h', loopL (B23_0 base) [some (.slice a n n), some (.int .i64 ((k + i : Nat) : Int)), some (.int .i64 (i : Int))] h = some (2, [some (.int .i64 ((k + n : Nat) : Int))], h') ∧ Own base 9 h' a (stV (marksS k n)) ∧ KB (blk a) h h' := by
 intro d
 induction d with
 | zero =>
  intro i h hi rest hr ho
  have e : i = n := by omega
  subst e
  rw [List.eq_nil_of_length_eq_zero hr, List.append_nil] at ho
  refine ⟨h, loop_off (by decide) ?_, ho, KB.refl _ _⟩
  rw [B23_0_eq]
  exact ifF (by simp) rfl
 | succ d ih =>
  intro i h hi rest hr ho
  match rest, hr with
  | z :: rest, hr =>
   have hl : (stV (marksS k i ++ z :: rest)).length = n := by
    rw [stV_len, List.length_append, marksS_length]; simp only [List.length_cons] at hr ⊢; omega
   obtain ⟨h1, e1, k1⟩ := markText_run (base := base) (h := h) (k := ((k + i : Nat) : Int)) (by omega)
   obtain ⟨ad2, h', g1, g2, g3, g4, g5⟩ := (ho.keepN k1).wr (i := i) (new := [.string (mt ((k + i : Nat) : Int))]) (by rw [hl]; simp; omega) (by simp)
   have e : setAt (stV (marksS k i ++ z :: rest)) i [.string (mt ((k + i : Nat) : Int))] = stV (marksS k (i + 1) ++ rest) := by
    have ea : ∀ x y : List ByteArray, stV (x ++ y) = stV x ++ stV y := fun x y => List.map_append
    have el : (stV (marksS k i)).length = i := by rw [stV_len, marksS_length]
    rw [ea]
    simp only [setAt, List.length_singleton]
    have e2 : (stV (marksS k i) ++ stV (z :: rest)).take i = stV (marksS k i) := by
     rw [List.take_append_of_le_length (by omega), List.take_of_length_le (by omega)]
    have e3 : (stV (marksS k i) ++ stV (z :: rest)).drop (i + 1) = stV rest := by
     rw [List.drop_append, el]
     have : i + 1 - i = 1 := by omega
     rw [this, List.drop_of_length_le (by omega)]
     rfl
    rw [e2, e3, ea]
    simp [stV, marksS, List.range_succ]
   rw [e] at g3
   obtain ⟨h'', k2, k3, k4⟩ := ih (i + 1) h' (by omega) rest (by simpa using hr) g3
   refine ⟨h'', loop_on ?_ k2, k3, KB.trans (k1.mono fun _ _ h => h.elim) (KB.trans g4 k4 (fun _ _ h => h) (fun _ _ h => h)) (fun _ _ h => h) (fun _ _ h => h)⟩
   rw [B23_0_eq]
   subst g1
   refine ifT (decide_eq_true (by omega)) (bs e1 (bT rfl (ifT (by omega) (bs rfl (bs (by rw [show Int.toNat (i : Int) * 1 = i from by simp]; exact g2) ?_)))))
   rw [w64i (n := ((k + i : Nat) : Int) + 1) (by omega) (by omega), w64i (n := (i : Int) + 1) (by omega) (by omega)]
   rfl
theorem markStringS_run {base : Nat} {h : AH} {a : Option Addr} {l : List ByteArray} {k : Nat} (ho : Own base 9 h a (stV l)) (hn : l.length ≤ 1000000000) (hk : k ≤ 1000000000) :
  ∃ h', run (Et base) 23 [.slice a l.length l.length, .int .i64 (k : Int)] h = some (.int .i64 ((k + l.length : Nat) : Int), h') ∧ Own base 9 h' a (stV (marksS k l.length)) ∧ KB (blk a) h h' := by
 obtain ⟨h', m1, m2, m3⟩ := markStringS_loop (base := base) (a := a) (k := k) hn hk l.length 0 h (by omega) l rfl (by simpa [marksS] using ho)
 refine ⟨h', Am.r23 (bs m1 (ifT rfl (bI rfl rfl))), m2, m3⟩
theorem heldStringS_loop {base : Nat} {a : Option Addr} {k n : Nat} (hn : n ≤ 1000000000) (hk : k ≤ 1000000000) : ∀ (d i : Nat) (h : AH), i + d = n → Sl h a (stV (marksS k n)) →
  ∃ h', loopL (B26_0 base) [some (.slice a n n), some (.int .i64 ((k + i : Nat) : Int)), some (.int .i64 (i : Int))] h = some (2, [some (.int .i64 ((k + n : Nat) : Int))], h') ∧ KB NoB h h' := by
 intro d
 induction d with
 | zero =>
  intro i h hi hs
  have e : i = n := by omega
  subst e
  refine ⟨h, loop_off (by decide) ?_, KB.refl _ _⟩
  rw [B26_0_eq]
  exact ifF (by simp) rfl
 | succ d ih =>
  intro i h hi hs
  have hlt : i < (marksS k n).length := by rw [marksS_length]; omega
  obtain ⟨ad, rfl, g⟩ := str_at hs hlt
  obtain ⟨h1, e1, k1⟩ := markText_run (base := base) (h := h) (k := ((k + i : Nat) : Int)) (by omega)
  obtain ⟨h2, e2, k2⟩ := ih (i + 1) h1 (by omega) (hs.keepN k1)
  refine ⟨h2, loop_on ?_ e2, kN k1 k2⟩
  rw [B26_0_eq]
  have hi1 : Int.toNat (i : Int) * 1 = i := by simp
  rw [hi1]
  refine ifT (decide_eq_true (by omega)) (ifT (by omega) (bs rfl (bT g (bs e1 (bT rfl ?_)))))
  rw [gate_pos (same_keep k1 g)]
  refine ifF (by rw [marksS_get]; simp) ?_
  rw [w64i (n := ((k + i : Nat) : Int) + 1) (by omega) (by omega), w64i (n := (i : Int) + 1) (by omega) (by omega)]
  rfl
theorem heldStringS_run {base : Nat} {h : AH} {a : Option Addr} {k n : Nat} (hx : Sl h a (stV (marksS k n))) (hn : n ≤ 1000000000) (hk : k ≤ 1000000000) :
  ∃ h', run (Et base) 26 [.slice a n n, .int .i64 (k : Int)] h = some (.int .i64 ((k + n : Nat) : Int), h') ∧ KB NoB h h' := by
 obtain ⟨h', m1, m2⟩ := heldStringS_loop (base := base) (k := k) hn hk n 0 h (by omega) hx
 exact ⟨h', Am.r26 (bs m1 (ifF (show ¬ (2 : Nat) = 1 by decide) (ifT rfl (bI rfl rfl)))), m2⟩
end Go.Proofs.Ytjmkbglnjklbcaa.Am
set_option linter.unusedSimpArgs false
set_option linter.unusedVariables false
namespace Go.Proofs.Ytjmkbglnjklbcaa.Am
open Go Go.RowKit
theorem Hs.callR {base : Nat} {V : Fp} {h0 h h' : AH} {D D' : Ds} {R R' : List Rs} (d : Hs base V h0 h D R) (z : Hs base NoB h h' D' R') (hm : ∀ r ∈ R', r.mu = true) : Hs base V h0 h' D (R ++ R') := by
 have d' := d.kN z.kb
 have hz : ∀ r ∈ R', ∀ b, r.S b → h.length ≤ b ∧ b < h'.length := fun r hr b hb => by
  obtain ⟨_, _, x3, x4, _⟩ := z.res r hr
  exact ⟨(x4 (hm r hr) b hb).resolve_left fun h => h, x3 b hb⟩
 refine ⟨d'.ge, d'.kb, d'.own, d'.nd, fun r hr => ?_, ?_⟩
 ·rcases List.mem_append.1 hr with hr | hr
  ·exact d'.res r hr
  ·obtain ⟨x1, x2, x3, x4, _⟩ := z.res r hr
   refine ⟨x1, x2, x3, fun _ b hb => .inr ?_, fun x hx hS => ?_⟩
   ·have := (hz r hr b hb).1
    have := d.kb.1
    omega
   ·have := ((d.own x hx).1.lt (blk_at0.2 rfl)).2
    have := (hz r hr _ hS).1
    omega
 ·rw [List.pairwise_append]
  refine ⟨d'.dj, z.dj, fun r hr s hs e b h1 h2 => ?_⟩
  have := (d.res r hr).2.2.1 b h1
  have := (hz s hs b h2).1
  omega
theorem Hs.toGn {base : Nat} {V : Fp} {h0 h : AH} {D : Ds} {R : List Rs} {oa ya : Option Addr} {G : Gn} (d : Hs base V h0 h D R) (h1 : G.old.length ≤ 1048576) (h2 : G.young.length ≤ 1048576) (x : GnS h oa ya G) :
  ∃ a b h', run (Et base) 29 [.agg (gensV oa ya G).toArray] h = some (.agg (gensV a b G).toArray, h') ∧ Hs base V h0 h' D (R ++ [rW base a G.old, rW base b G.young]) ∧ KB NoB h h' := by
 obtain ⟨a, b, h', e, o1, o2, k, q, dj⟩ := toGens_run (base := base) h1 h2 x d.ge
 have d := d.call2 k (blk a) (blk b) (fun y => Own base 3 y a (iv .i64 G.old)) (fun y => Own base 3 y b (iv .i64 G.young)) o1 o2 (fun U y y' ky hs x => x.keep ky hs) (fun U y y' ky hs x => x.keep ky hs) (fun i hi => q i (.inl hi)) (fun i hi => q i (.inr hi)) dj
 rw [List.append_assoc] at d
 exact ⟨a, b, h', e, d, k⟩
theorem Hs.markW {base i k : Nat} {V : Fp} {h0 h : AH} {D : Ds} {R : List Rs} {a : Option Addr} {l : List Int} (d : Hs base V h0 h D R) (ei : R[i]? = some (rW base a l)) (hn : l.length ≤ 1000000000) (hk : k ≤ 1000000000) :
  ∃ h', run (Et base) 76 [.slice a l.length l.length, .int .i64 (k : Int)] h = some (.int .i64 ((k + l.length : Nat) : Int), h') ∧ Hs base V h0 h' D (R.set i (rW base a (marksI k l.length))) := by
 obtain ⟨h', e, o, kk⟩ := markIntS_run (base := base) (k := k) (d.rs ei : Own base 3 h a (iv .i64 l)) (by omega) (by omega)
 exact ⟨h', e, d.upd (r := rW base a l) (r' := rW base a (marksI k l.length)) (Upd.at ei) rfl rfl kk (fun b hb => .inl hb) o (fun U y y' ky hs x => x.keep ky hs) (fun b hb => .inl hb)⟩
theorem Hs.markS {base i k : Nat} {V : Fp} {h0 h : AH} {D : Ds} {R : List Rs} {a : Option Addr} {l : List ByteArray} (d : Hs base V h0 h D R) (ei : R[i]? = some (rSt base a l)) (hn : l.length ≤ 1000000000) (hk : k ≤ 1000000000) :
  ∃ h', run (Et base) 23 [.slice a l.length l.length, .int .i64 (k : Int)] h = some (.int .i64 ((k + l.length : Nat) : Int), h') ∧ Hs base V h0 h' D (R.set i (rSt base a (marksS k l.length))) := by
 obtain ⟨h', e, o, kk⟩ := markStringS_run (base := base) (k := k) (d.rs ei : Own base 9 h a (stV l)) (by omega) (by omega)
 exact ⟨h', e, d.upd (r := rSt base a l) (r' := rSt base a (marksS k l.length)) (Upd.at ei) rfl rfl kk (fun b hb => .inl hb) o (fun U y y' ky hs x => x.keep ky hs) (fun b hb => .inl hb)⟩
theorem Hs.markGn {base i j k : Nat} {V : Fp} {h0 h : AH} {D : Ds} {R : List Rs} {a b : Option Addr} {G : Gn} (d : Hs base V h0 h D R) (ei : R[i]? = some (rW base a G.old)) (ej : (R.set i (rW base a (marksI k G.old.length)))[j]? = some (rW base b G.young)) (h1 : G.old.length ≤ 100000000) (h2 : G.young.length ≤ 100000000) (hk : k ≤ 100000000) :
  ∃ h', run (Et base) 32 [.agg (gensV a b G).toArray, .int .i64 (k : Int)] h = some (.int .i64 ((k + G.old.length + G.young.length : Nat) : Int), h') ∧ Hs base V h0 h' D ((R.set i (rW base a (marksI k G.old.length))).set j (rW base b (marksI (k + G.old.length) G.young.length))) := by
 suffices W : Wp (run (Et base) 32 [.agg (gensV a b G).toArray, .int .i64 (k : Int)] h) fun o => o.1 = .int .i64 ((k + G.old.length + G.young.length : Nat) : Int) ∧ Hs base V h0 o.2 D ((R.set i (rW base a (marksI k G.old.length))).set j (rW base b (marksI (k + G.old.length) G.young.length))) by
  obtain ⟨⟨o1, o2⟩, e, y1, y2⟩ := W
  simp only at y1 y2
  subst y1
  exact ⟨o2, e, y2⟩
 refine W.of (fun r hx => Am.r32 hx) ?_
 ((try simp only [n1, n2, n3, n4, n5, n6] at d); (with_reducible repeat first | refine W.a1 d ?_ | refine W.a2 ?_ | refine W.a3 ?_ | refine W.bo ?_ | refine W.a5 d fun hw d lw kw => ?_ | refine W.a6 d ?_ | refine W.a7 ?_ | refine W.a8 ?_); (refine W.nD d fun p1 d _ kp1 => ?_); (with_reducible repeat first | refine W.a1 d ?_ | refine W.a2 ?_ | refine W.a3 ?_ | refine W.bo ?_ | refine W.a5 d fun hw d lw kw => ?_ | refine W.a6 d ?_ | refine W.a7 ?_ | refine W.a8 ?_))
 obtain ⟨h2, e2, d⟩ := d.markW ei (k := k) (by omega) (by omega)
 refine W.bs e2 ?_
 ((try simp only [n1, n2, n3, n4, n5, n6] at d); (with_reducible repeat first | refine W.a1 d ?_ | refine W.a2 ?_ | refine W.a3 ?_ | refine W.bo ?_ | refine W.a5 d fun hw d lw kw => ?_ | refine W.a6 d ?_ | refine W.a7 ?_ | refine W.a8 ?_))
 obtain ⟨h3, e3, d⟩ := d.markW ej (k := k + G.old.length) (by omega) (by omega)
 refine W.bs e3 ?_
 ((try simp only [n1, n2, n3, n4, n5, n6] at d); (with_reducible repeat first | refine W.a1 d ?_ | refine W.a2 ?_ | refine W.a3 ?_ | refine W.bo ?_ | refine W.a5 d fun hw d lw kw => ?_ | refine W.a6 d ?_ | refine W.a7 ?_ | refine W.a8 ?_))
 exact W.ret ⟨rfl, d.tl⟩
theorem heldGens_run {base k : Nat} {h : AH} {a b : Option Addr} {G : Gn} (hx : Sl h a (iv .i64 (marksI k G.old.length))) (hy : Sl h b (iv .i64 (marksI (k + G.old.length) G.young.length))) (h1 : G.old.length ≤ 100000000) (h2 : G.young.length ≤ 100000000) (hk : k ≤ 100000000) (hb : base ≤ h.length) :
  ∃ h', run (Et base) 33 [.agg (gensV a b G).toArray, .int .i64 (k : Int)] h = some (.int .i64 ((k + G.old.length + G.young.length : Nat) : Int), h') ∧ KB NoB h h' := by
 have d := Hs.start hb
 suffices W : Wp (run (Et base) 33 [.agg (gensV a b G).toArray, .int .i64 (k : Int)] h) fun o => o.1 = .int .i64 ((k + G.old.length + G.young.length : Nat) : Int) ∧ KB NoB h o.2 by
  obtain ⟨⟨o1, o2⟩, e, y1, y2⟩ := W
  simp only at y1 y2
  subst y1
  exact ⟨o2, e, y2⟩
 refine W.of (fun r hx => Am.r33 hx) ?_
 ((try simp only [n1, n2, n3, n4, n5, n6] at d); (with_reducible repeat first | refine W.a1 d ?_ | refine W.a2 ?_ | refine W.a3 ?_ | refine W.bo ?_ | refine W.a5 d fun hw d lw kw => ?_ | refine W.a6 d ?_ | refine W.a7 ?_ | refine W.a8 ?_); (refine W.nD d fun p1 d _ kp1 => ?_); (with_reducible repeat first | refine W.a1 d ?_ | refine W.a2 ?_ | refine W.a3 ?_ | refine W.bo ?_ | refine W.a5 d fun hw d lw kw => ?_ | refine W.a6 d ?_ | refine W.a7 ?_ | refine W.a8 ?_))
 refine W.bs (heldIntS_run (base := base) (hx.keepN d.kb) (by omega) (by omega)) ?_
 ((try simp only [n1, n2, n3, n4, n5, n6] at d); (with_reducible repeat first | refine W.a1 d ?_ | refine W.a2 ?_ | refine W.a3 ?_ | refine W.bo ?_ | refine W.a5 d fun hw d lw kw => ?_ | refine W.a6 d ?_ | refine W.a7 ?_ | refine W.a8 ?_))
 refine W.ifF (by simp; omega) ?_
 ((try simp only [n1, n2, n3, n4, n5, n6] at d); (with_reducible repeat first | refine W.a1 d ?_ | refine W.a2 ?_ | refine W.a3 ?_ | refine W.bo ?_ | refine W.a5 d fun hw d lw kw => ?_ | refine W.a6 d ?_ | refine W.a7 ?_ | refine W.a8 ?_))
 refine W.bs (heldIntS_run (base := base) (hy.keepN d.kb) (by omega) (by omega)) ?_
 ((try simp only [n1, n2, n3, n4, n5, n6] at d); (with_reducible repeat first | refine W.a1 d ?_ | refine W.a2 ?_ | refine W.a3 ?_ | refine W.bo ?_ | refine W.a5 d fun hw d lw kw => ?_ | refine W.a6 d ?_ | refine W.a7 ?_ | refine W.a8 ?_))
 refine W.ifF (by simp; omega) ?_
 exact W.ret ⟨rfl, d.kb⟩
end Go.Proofs.Ytjmkbglnjklbcaa.Am
set_option linter.unusedSimpArgs false
set_option linter.unusedVariables false
namespace Go.Proofs.Ytjmkbglnjklbcaa.Am
open Go Go.RowKit
theorem putT_len {fr most : Int} {f : Nat} {w : List Int} {ats : List ByteArray} {t : Tm} : ((putT fr most f w ats t).1.1.length : Int) ≤ max (w.length : Int) most ∧ (putT fr most f w ats t).1.2.length ≤ max ats.length 200 := by
 by_cases c : roomT most f w t = true
 ·rw [putT_yes c]
  unfold roomT at c
  rw [Bool.and_eq_true] at c
  have := of_decide_eq_true c.2
  obtain ⟨a, b⟩ := pt_ok (fr := fr) f t (Wf.of c.1) (w, ats)
  simp only at a b
  by_cases c2 : (pt fr f (w, ats) t).2.2 = true
  ·rw [if_pos c2]
   simp only
   omega
  ·rw [if_neg c2]
   simp only
   omega
 ·rw [putT_no (by simpa using c)]
  simp only
  omega
theorem Hs.toSt {base : Nat} {V : Fp} {h0 h : AH} {D : Ds} {R : List Rs} {aa : Option Addr} {ats : List ByteArray} (d : Hs base V h0 h D R) (h1 : ats.length ≤ 1048576) (x : Sl h aa (stV ats)) :
  ∃ a h', run (Et base) 16 [.slice aa ats.length ats.length] h = some (.slice a ats.length ats.length, h') ∧ Hs base V h0 h' D (R ++ [rSt base a ats]) ∧ KB NoB h h' := by
 obtain ⟨a, h', e, o1, k, q⟩ := toStringS_run (base := base) x h1 d.ge
 exact ⟨a, h', e, d.call k _ _ o1 (fun U y y' ky hs x => x.keep ky hs) q, k⟩
abbrev rTG (base : Nat) (S : Fp) (f : Nat) (t : Tm) (cs : List Value) : Rs := ⟨S, true, fun y => TmG base f S y t cs⟩
theorem Hs.toTm {base f : Nat} {V : Fp} {h0 h : AH} {D : Ds} {R : List Rs} {p : Nat → Prop} {k n : Int} {s : ByteArray} {l : List Tm} {a : Option Addr} (d : Hs base V h0 h D R) (x : TmR h p (f + 1) (.mk k n s l) (termV k n s a l.length)) (hB : TmB (f + 1) (.mk k n s l)) (hp : ∀ b, p b → b < h.length) :
  ∃ a' S h', run (Et base) 17 [.agg (termV k n s a l.length).toArray] h = some (.agg (termV k n s a' l.length).toArray, h') ∧ Hs base V h0 h' D (R ++ [rTG base S (f + 1) (.mk k n s l) (termV k n s a' l.length)]) ∧ KB NoB h h' := by
 obtain ⟨cs1, h', e, x7, k8⟩ := toTermG_run (base := base) (f + 1) _ p _ _ x hB d.ge hp
 obtain ⟨kk, nn, ss, aa, mm, rfl⟩ := x7.form
 obtain ⟨rfl, rfl, rfl, rfl⟩ := x7.eq
 exact ⟨aa, _, h', e, d.callP (TmG.kp _ _) k8 x7, k8⟩
end Go.Proofs.Ytjmkbglnjklbcaa.Am
