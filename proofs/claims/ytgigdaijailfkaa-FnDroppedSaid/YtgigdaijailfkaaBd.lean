/- What is drawn: terms that are bent, timers that are bent (printed by wip/gen/bd.py: its long expressions are pieces of the functions' equations).
Conditions: none. -/
import Derived.Test.YtgigdaijailfkaaDt
set_option linter.unusedSimpArgs false
set_option linter.unusedVariables false
namespace Go.Proofs.Ytgigdaijailfkaa.Am
open Go Go.RowKit

theorem TmR.ups {h : AH} {p : Nat → Prop} {t : Tm} {cs : List Value} : ∀ (d f : Nat), TmR h p f t cs → TmR h p (f + d) t cs
  | 0, _, x => x
  | d + 1, f, x => TmR.up _ _ _ (TmR.ups d f x)
theorem TmB.up : ∀ (f : Nat) (t : Tm), TmB f t → TmB (f + 1) t
  | 0, _, x => x.elim
  | f + 1, .mk k n s l, x => ⟨x.1, x.2.1, fun t ht => TmB.up f t (x.2.2 t ht)⟩
theorem TmB.ups {t : Tm} : ∀ (d f : Nat), TmB f t → TmB (f + d) t
  | 0, _, x => x
  | d + 1, f, x => TmB.up _ _ (TmB.ups d f x)

/-- A copy, its row one's own. -/
theorem l1CopyO_run {base f : Nat} {h : AH} {p : Nat → Prop} {k n : Int} {s : ByteArray} {l : List Tm} {cs : List Value} (x : TmR h p (f + 1) (.mk k n s l) cs) (hB : TmB (f + 1) (.mk k n s l)) (hb : base ≤ h.length) (hp : ∀ b, p b → b < h.length) :
    ∃ ao vs T h', run (Et base) 94 [.agg cs.toArray] h = some (.agg (termV k n s ao l.length).toArray, h') ∧ Own base 48 h' ao vs ∧ vs.length = l.length * 4 ∧ Chunks 4 (TmD f) T h' l vs ∧ (∀ b, T b → h.length ≤ b ∧ b < h'.length) ∧ (∀ b, blk ao b → ¬ T b ∧ h.length ≤ b) ∧ KB NoB h h' := by
    obtain ⟨a, rfl, hts, hs, hl⟩ := x.parts
    obtain ⟨b1, b2, b3⟩ := hB
    obtain ⟨o1, k1, q1⟩ := box_own (base := base) (t := 48) (h := h) (cs := termV k n s a l.length) hb rfl
    generalize hh1 : h ++ [some (⟨termV k n s a l.length, 48⟩ : Blk)] = h1 at o1 k1 q1
    obtain ⟨o2, k2, q2⟩ := box_own (base := base) (t := 48) (h := h1) (cs := termV 0 0 ⟨#[]⟩ none 0) (by omega) rfl
    generalize hh2 : h1 ++ [some (⟨termV 0 0 ⟨#[]⟩ none 0, 48⟩ : Blk)] = h2 at o2 k2 q2
    obtain ⟨o3, k3, q3⟩ := box_own (base := base) (t := 48) (h := h2) (cs := termV k n s a l.length) (by omega) rfl
    generalize hh3 : h2 ++ [some (⟨termV k n s a l.length, 48⟩ : Blk)] = h3 at o3 k3 q3
    obtain ⟨o4, k4, q4'⟩ := box_own (base := base) (t := 48) (h := h3) (cs := []) (by omega) rfl
    generalize hh4 : h3 ++ [some (⟨[], 48⟩ : Blk)] = h4 at o4 k4 q4'
    obtain ⟨h5, e5, o5, k5, l5⟩ := (o3.keepN k4).wr0 (i := 3) (new := [.slice (at0 h3.length) 0 0]) (by simp) (by simp)
    have hset : setAt (termV k n s a l.length) 3 [.slice (at0 h3.length) 0 0] = termV k n s (at0 h3.length) 0 := rfl
    rw [hset] at o5
    have k04 : KB NoB h h4 := kN (kN (kN k1 k2) k3) k4
    have k05 : KB NoB h h5 := kFresh k04 k5 fun i hi => by omega
    obtain ⟨h6, ao, vs, T, e6, oo6, ow6, hv6, hc6, hT6, ha6, k6⟩ := l1Copy_loop (base := base) (l1Copy_run f) (p := p) (l := l) (a := a) (b0 := h.length) (b1 := h1.length) (b2 := h2.length) (k := k) (n := n) (s := s) b2 b3 (fun b hb => by have := hp b hb; omega) (by omega) (by omega) l.length 0 h5 (at0 h3.length) [] (fun _ => False) (by omega) (hts.keep k05 fun _ _ h => h) (by omega)
      ((((o1.keepN k2).keepN k3).keepN k4).keepB k5 fun i hi => by rw [blk_at0] at hi; omega) o5 (o4.keepB k5 fun i hi => by rw [blk_at0] at hi; omega) (by simp) Chunks.nil (fun _ h => h.elim) (fun b hb => by rw [blk_at0] at hb; exact ⟨fun h => h, by omega⟩)
    have n6 := k6.1
    have z6 := (((o2.keepN k3).keepN k4).keepB k5 fun i hi => by rw [blk_at0] at hi; omega).keep k6 fun b hb hk => by rw [blk_at0] at hb; omega
    obtain ⟨h7, e7, o7, k7, l7⟩ := z6.wr0 (i := 0) (new := termV k n s ao l.length) (by simp) (by simp)
    have hz : setAt (termV 0 0 ⟨#[]⟩ none 0) 0 (termV k n s ao l.length) = termV k n s ao l.length := rfl
    rw [hz] at o7
    have ow7 := ow6.keepB k7 fun b hb => by have := (ha6 b hb).2; omega
    have hc7 := hc6.keep (TmD.kp _) k7 fun b hb hk => by have := hT6 b hb; omega
    refine ⟨ao, vs, T, h7, r94 (lets fun y1 ey => ?_), ow7, hv6, hc7, fun b hb => by have := hT6 b hb; constructor <;> omega, fun b hb => ⟨(ha6 b hb).1, by have := (ha6 b hb).2; omega⟩, kFresh (kFresh k05 k6 fun i hi => by omega) k7 fun i hi => by omega⟩
    rw [hh1] at ey
    subst ey
    refine lets fun y2 ey => ?_
    rw [hh2] at ey
    subst ey
    refine q4 (o1.keepN k2) (nw (by omega) rfl fun y3 ey => ?_)
    rw [hh3] at ey
    subst ey
    refine lets fun y4 ey => ?_
    rw [hh4] at ey
    subst ey
    refine bs e5 ?_
    rw [show ((0 : Nat) : Int) = 0 from rfl] at e6
    refine bs e6 (ifT rfl (bs rfl (bs rfl (q4 oo6 (bs e7 (q4 o7 rfl))))))

/-- Wrapped once more, and again. -/
theorem l1Bend_loop {base b0 b1 lo : Nat} (h0 : b0 < lo) (h1 : b1 < lo) (hlo : base ≤ lo) : ∀ (d i f : Nat) (h : AH) (t : Tm) (k n : Int) (s : ByteArray) (a : Option Addr) (m : Nat), i + d = 6 → lo ≤ h.length → Own base 48 h (at0 b0) (termV k n s a m) → TmR h (iS lo h.length) f t (termV k n s a m) → TmB f t →
    ∃ h' t' k' n' s' a' m', loopL (B114_0 base) [some (.pointer (at0 b0)), some (.pointer (at0 b1)), some (.int .i64 (i : Int))] h = some (3, [some (.pointer (at0 b0)), some (.pointer (at0 b1))], h') ∧ Own base 48 h' (at0 b0) (termV k' n' s' a' m') ∧ TmR h' (iS lo h'.length) (f + d) t' (termV k' n' s' a' m') ∧ TmB (f + d) t' ∧ KB (fun b => b = b0) h h' := by
  intro d
  induction d with
  | zero =>
    intro i f h t k n s a m hi hl o hm hB
    refine ⟨h, t, k, n, s, a, m, loop_off (by decide) ?_, o, hm, hB, KB.refl _ _⟩
    rw [B114_0_eq]
    exact ifF (by simp; omega) rfl
  | succ d ih =>
    intro i f h t k n s a m hi hl o hm hB
    have hob := o.lt (blk_at0.2 rfl)
    obtain ⟨o6, k6, q6'⟩ := box_own (base := base) (t := 48) (h := h) (cs := termV k n s a m) (by omega) rfl
    generalize hh6 : h ++ [some (⟨termV k n s a m, 48⟩ : Blk)] = h6 at o6 k6 q6'
    obtain ⟨o11, k11, q11⟩ := box_own (base := base) (t := 48) (h := h6) (cs := termV k n s a m) (by omega) rfl
    generalize hh11 : h6 ++ [some (⟨termV k n s a m, 48⟩ : Blk)] = h11 at o11 k11 q11
    obtain ⟨h12, e12, o12, k12, l12⟩ := ((o.keepN k6).keepN k11).wr0 (i := 0) (new := termV 4 0 ⟨#[]⟩ (at0 h6.length) 1) (by simp) (by simp)
    have hz : setAt (termV k n s a m) 0 (termV 4 0 ⟨#[]⟩ (at0 h6.length) 1) = termV 4 0 ⟨#[]⟩ (at0 h6.length) 1 := rfl
    rw [hz] at o12
    have m12 := TmR.keep k12 (fun b (hb : iS lo h.length b) hu => by omega) _ _ _ (TmR.keep k11 (fun _ _ h => h) _ _ _ (TmR.keep k6 (fun _ _ h => h) _ _ _ hm))
    have r12 : TsR h12 (iS lo h12.length) f [t] (at0 h6.length) := ⟨termV k n s a m, (o11.keepB k12 fun b hb => by rw [blk_at0] at hb; omega).sl, .inr fun b hb => by rw [blk_at0] at hb; constructor <;> omega, rfl, fun j z hz => by
      match j, hz with
      | 0, hz => simp at hz; subst hz; exact m12.mono (fun b hb => by constructor <;> omega) _ _ _
      | j + 1, hz => simp at hz⟩
    have t12 := TmR.of (k := 4) (n := 0) (s := ⟨#[]⟩) r12 (by decide) (by simp [maxLen])
    obtain ⟨h', t', k', n', s', a', m', e', o', m', b', kk'⟩ := ih (i + 1) (f + 1) h12 (.mk 4 0 ⟨#[]⟩ [t]) 4 0 ⟨#[]⟩ (at0 h6.length) 1 (by omega) (by omega) o12 t12 ⟨by decide, by simp, fun z hz => by rw [List.mem_singleton] at hz; subst hz; exact hB⟩
    refine ⟨h', t', k', n', s', a', _, loop_on ?_ e', o', by rw [show f + (d + 1) = f + 1 + d from by omega]; exact m', by rw [show f + (d + 1) = f + 1 + d from by omega]; exact b', KB.trans (kNB (kN k6 k11) k12) kk' (fun _ _ h => h) (fun _ _ h => h)⟩
    rw [B114_0_eq]
    have hbh : base ≤ h.length := by omega
    refine ifT (decide_eq_true (by omega)) (q4 o (nw hbh rfl fun y ey => ?_))
    have ey2 : y = h6 := by rw [ey]; exact hh6
    subst ey2
    refine q4 o6 (lets fun y ey => ?_)
    have ey2 : y = h11 := by rw [ey]; exact hh11
    subst ey2
    refine bs e12 ?_
    rw [w64i (by omega) (by omega), show ((i : Int) + 1) = ((i + 1 : Nat) : Int) from by omega]

theorem bend_strs {s : ByteArray} (h : s ∈ ([⟨#[]⟩, ⟨#[65]⟩, ⟨#[120]⟩, ⟨#[116, 104, 105, 114, 116, 101, 101, 110, 98, 121, 116, 101, 115]⟩] : List ByteArray)) : s.size ≤ 13 := by
  have : ∀ s ∈ ([⟨#[]⟩, ⟨#[65]⟩, ⟨#[120]⟩, ⟨#[116, 104, 105, 114, 116, 101, 101, 110, 98, 121, 116, 101, 115]⟩] : List ByteArray), s.size ≤ 13 := by
    simp only [List.forall_mem_cons]
    exact ⟨by decide, by decide, by decide, by decide, fun _ h => nomatch h⟩
  exact this s h
theorem TsR.mono {h : AH} {p q : Nat → Prop} (hpq : ∀ b, p b → q b) {f : Nat} {l : List Tm} {a : Option Addr} (x : TsR h p f l a) : TsR h q f l a := by
  obtain ⟨vs, h4, h5, h6, h7⟩ := x
  exact ⟨vs, h4, h5.imp id fun g b hb => hpq b (g b hb), h6, fun i t hi => (h7 i t hi).mono hpq _ _ _⟩

theorem l1Bend_run {base cb : Nat} {h : AH} {p : Nat → Prop} {t : Tm} {k n : Int} {s : ByteArray} {a : Option Addr} {m : Nat} (x : CurR base cb h) (hm : TmR h p 6 t (termV k n s a m)) (hB : TmB 6 t) (hsm : t.len ≤ 1000) (hp : ∀ b, p b → b < h.length) :
    ∃ t' k' n' s' a' m' h', run (Et base) 114 [.pointer (at0 cb), .agg (termV k n s a m).toArray] h = some (.agg (termV k' n' s' a' m').toArray, h') ∧ TmR h' (iS h.length h'.length) dF t' (termV k' n' s' a' m') ∧ TmB dF t' ∧ CurR base cb h' ∧ KB (· = cb) h h' := by
  have hlt := x.lt
  obtain ⟨k0, n0, s0, l⟩ := t
  have hsmall : l.length ≤ 1000 := hsm
  obtain ⟨_, ecs, _, hs0, hl0⟩ := hm.parts
  injection ecs with q0 ecs
  injection ecs with q1 ecs
  injection ecs with q2 ecs
  injection ecs with q3 _
  injection q0 with _ q0; injection q1 with _ q1; injection q2 with q2; injection q3 with _ q3 _
  subst q0; subst q1; subst q2; subst q3
  obtain ⟨o1, k1, q1⟩ := box_own (base := base) (t := 48) (h := h) (cs := termV k n s a l.length) (by omega) rfl
  generalize hh1 : h ++ [some (⟨termV k n s a l.length, 48⟩ : Blk)] = h1 at o1 k1 q1
  obtain ⟨o2, k2, q2⟩ := box_own (base := base) (t := 48) (h := h1) (cs := termV 0 0 ⟨#[]⟩ none 0) (by omega) rfl
  generalize hh2 : h1 ++ [some (⟨termV 0 0 ⟨#[]⟩ none 0, 48⟩ : Blk)] = h2 at o2 k2 q2
  have k02 := kN k1 k2
  have hB' := hB
  obtain ⟨bs1, bs2, bs3⟩ := hB'
  obtain ⟨ao, vs, T, h7, e7, ow7, hv7, hc7, hT7, ha7, k7⟩ := l1CopyO_run (base := base) (f := 5) (TmR.keep k02 (fun _ _ h => h) _ _ _ hm) hB (by omega) (fun b hb => by have := hp b hb; omega)
  have n7 := k7.1
  obtain ⟨h13, e13, o13, k13, l13⟩ := ((o1.keepN k2).keepN k7).wr0 (i := 0) (new := termV k n s ao l.length) (by simp) (by simp)
  have hz : setAt (termV k n s a l.length) 0 (termV k n s ao l.length) = termV k n s ao l.length := rfl
  rw [hz] at o13
  have z13 := (o2.keepN k7).keepB k13 fun b hb => by rw [blk_at0] at hb; omega
  have ow13 := ow7.keepB k13 fun b hb => by have := (ha7 b hb).2; omega
  have hc13 := hc7.keep (TmD.kp _) k13 fun b hb hu => by have := hT7 b hb; omega
  have k013 : KB NoB h h13 := kFresh (kN k02 k7) k13 fun i hi => by omega
  obtain ⟨n16, h15, e15, z0, z1, _, x15, k15, l15⟩ := l1Below_run (n := 6) ((x.keepN (kN k02 k7)).keep k13 fun b hb => by omega) (by omega)
  have z1 := z1 (by omega)
  have o15 := o13.keepB k15 fun b hb => by rw [blk_at0] at hb; omega
  have z15 := z13.keepB k15 fun b hb => by rw [blk_at0] at hb; omega
  have ow15 := ow13.keepB k15 fun b hb => by have := (ha7 b hb).2; omega
  have hc15 := hc13.keep (TmD.kp _) k15 fun b hb hu => by have := hT7 b hb; omega
  have k015 : KB (· = cb) h h15 := kNB k013 k15
  have row15 : TsR h15 (iS h2.length h15.length) 5 l ao := (RowD.tsR (S := iS h2.length h15.length) ⟨vs, T, ow15.sl, hv7, .inr fun b hb => ⟨⟨(ha7 b hb).2, (ow15.lt hb).2⟩, (ha7 b hb).1⟩, fun b hb => by have := hT7 b hb; constructor <;> omega, hc15⟩)
  have hl6 : l.length ≤ 1048576 := bs2
  obtain ⟨hJ, t', k', n', s', a', m', eJ, oJ, zJ, mJ, bJ, xJ, kJ⟩ : ∃ hJ t' k' n' s' a' m',
      (((run (Et base) 67 [(.pointer (at0 cb)), (.int .i64 (6 : Int))] h13).bind fun r15 =>
((some r15.1).bind (getI .i64)).bind fun n16 =>
(if (n16 == (0 : Int)) = true then
(run (Et base) 67 [(.pointer (at0 cb)), (.int .i64 (8 : Int))] r15.2).bind fun r17 =>
((some r17.1).bind (getI .i64)).bind fun n18 =>
(Am.wr base r17.2 (List.length h) 0 [(.int .i64 n18)]).bind fun h19 =>
some (Sum.inl ([some (.pointer (some ⟨(List.length h), 0, none⟩)), some (.pointer (some ⟨(List.length h1), 0, none⟩))], h19))
else
(if (n16 == (1 : Int)) = true then
(some (r15.2 ++ [some ⟨[(.int .i64 (-1 : Int)), (.int .i64 (1000001 : Int)), (.int .i64 (100000 : Int)), (.int .i64 (3 : Int))], 3⟩])).bind fun h20 =>
(run (Et base) 74 [(.pointer (at0 cb)), (.slice (some ⟨(List.length r15.2), 0, none⟩) 4 4)] h20).bind fun r21 =>
((some r21.1).bind (getI .i64)).bind fun n22 =>
(Am.wr base r21.2 (List.length h) 1 [(.int .i64 n22)]).bind fun h23 =>
some (Sum.inl ([some (.pointer (some ⟨(List.length h), 0, none⟩)), some (.pointer (some ⟨(List.length h1), 0, none⟩))], h23))
else
(if (n16 == (2 : Int)) = true then
(some (r15.2 ++ [some ⟨[(.string (⟨#[]⟩ : ByteArray)), (.string (⟨#[65]⟩ : ByteArray)), (.string (⟨#[120]⟩ : ByteArray)), (.string (⟨#[116, 104, 105, 114, 116, 101, 101, 110, 98, 121, 116, 101, 115]⟩ : ByteArray))], 9⟩])).bind fun h24 =>
(run (Et base) 96 [(.pointer (at0 cb)), (.slice (some ⟨(List.length r15.2), 0, none⟩) 4 4)] h24).bind fun r25 =>
((some r25.1).bind getStr).bind fun s26 =>
(Am.wr base r25.2 (List.length h) 2 [(.string s26)]).bind fun h27 =>
some (Sum.inl ([some (.pointer (some ⟨(List.length h), 0, none⟩)), some (.pointer (some ⟨(List.length h1), 0, none⟩))], h27))
else
(if (n16 == (3 : Int)) = true then
((Am.cell r15.2 (List.length h) 3).bind getS).bind fun l28 =>
(some (r15.2 ++ [some ⟨[(.int .i64 (1 : Int)), (.int .i64 (4 : Int)), (.string (⟨#[]⟩ : ByteArray)), (.slice none 0 0)], 48⟩])).bind fun h29 =>
(Am.app base h29 48 4 56 l28.1 l28.2 (rawAt h29 (some ⟨(List.length r15.2), 0, none⟩) (1 * 4)) 1).bind fun p30 =>
((some p30.1).bind getS).bind fun l31 =>
(Am.wr base p30.2 (List.length h) 3 [(.slice l31.1 l31.2 l31.2)]).bind fun h32 =>
some (Sum.inl ([some (.pointer (some ⟨(List.length h), 0, none⟩)), some (.pointer (some ⟨(List.length h1), 0, none⟩))], h32))
else
(if (n16 == (4 : Int)) = true then
(loopL (B114_0 base) [some (.pointer (some ⟨(List.length h), 0, none⟩)), some (.pointer (some ⟨(List.length h1), 0, none⟩)), some (.int .i64 (0 : Int))] r15.2).bind fun q33 =>
(if q33.1 = 3 then
((sget q33.2.1 0).bind getA).bind fun d34 =>
((sget (q33.2.1.tail) 0).bind getA).bind fun d35 =>
some (Sum.inl ([some (.pointer (some d34)), some (.pointer (some d35))], q33.2.2))
else
none)
else
some (Sum.inl ([some (.pointer (some ⟨(List.length h), 0, none⟩)), some (.pointer (some ⟨(List.length h1), 0, none⟩))], r15.2)))))))) : Option (Sum (Slots × AH) (Value × AH))) = some (Sum.inl ([some (.pointer (at0 h.length)), some (.pointer (at0 h1.length))], hJ)) ∧ Own base 48 hJ (at0 h.length) (termV k' n' s' a' m') ∧ Own base 48 hJ (at0 h1.length) (termV 0 0 ⟨#[]⟩ none 0) ∧
      TmR hJ (iS h2.length hJ.length) dF t' (termV k' n' s' a' m') ∧ TmB dF t' ∧ CurR base cb hJ ∧ KB (· = cb) h hJ := by
    by_cases c0 : (n16 == (0 : Int)) = true
    · obtain ⟨n18, h17, e17, _, _, _, x17, k17, l17⟩ := l1Below_run (n := 8) x15 (by omega)
      obtain ⟨h19, e19, o19, k19, l19⟩ := (o15.keepB k17 fun b hb => by rw [blk_at0] at hb; omega).wr0 (i := 0) (new := [.int .i64 n18]) (by simp) (by simp)
      have hz : setAt (termV k n s ao l.length) 0 [.int .i64 n18] = termV n18 n s ao l.length := rfl
      rw [hz] at o19
      have r19 := ((row15.keep k17 fun b (hb : iS h2.length h15.length b) hu => by omega).keep k19 fun b (hb : iS h2.length h15.length b) hu => by omega).mono (q := iS h2.length h19.length) fun b hb => by constructor <;> omega
      exact ⟨h19, .mk n18 n s l, n18, n, s, ao, l.length, bs e15 (bI rfl (ifT c0 (bs e17 (bI rfl (bs e19 rfl))))), o19, (z15.keepB k17 fun b hb => by rw [blk_at0] at hb; omega).keepB k19 fun b hb => by rw [blk_at0] at hb; omega, TmR.ups 6 6 (TmR.of r19 hs0 hl0), TmB.ups 6 6 ⟨bs1, bs2, bs3⟩, x17.keep k19 fun b hb => by omega, kCF (kC k015 k17) k19 fun i hi => by omega⟩
    by_cases c1 : (n16 == (1 : Int)) = true
    · obtain ⟨o20, k20, q20⟩ := box_own (base := base) (t := 3) (h := h15) (cs := iv .i64 [-1, 1000001, 100000, 3]) (by omega) rfl
      generalize hh20 : h15 ++ [some (⟨iv .i64 [-1, 1000001, 100000, 3], 3⟩ : Blk)] = h20 at o20 k20 q20
      obtain ⟨n22, h21, e21, _, x21, k21, l21⟩ := l1Int_run (x15.keepN k20) o20.sl (fun b hb => by rw [blk_at0] at hb; omega) (by simp) (by simp)
      obtain ⟨h23, e23, o23, k23, l23⟩ := ((o15.keepN k20).keepB k21 fun b hb => by rw [blk_at0] at hb; omega).wr0 (i := 1) (new := [.int .i64 n22]) (by simp) (by simp)
      have hz : setAt (termV k n s ao l.length) 1 [.int .i64 n22] = termV k n22 s ao l.length := rfl
      rw [hz] at o23
      have r23 := (((row15.keep k20 fun _ _ h => h).keep k21 fun b (hb : iS h2.length h15.length b) hu => by omega).keep k23 fun b (hb : iS h2.length h15.length b) hu => by omega).mono (q := iS h2.length h23.length) fun b hb => by constructor <;> omega
      refine ⟨h23, .mk k n22 s l, k, n22, s, ao, l.length, bs e15 (bI rfl (ifF c0 (ifT c1 (lets fun y ey => ?_)))), o23, ((z15.keepN k20).keepB k21 fun b hb => by rw [blk_at0] at hb; omega).keepB k23 fun b hb => by rw [blk_at0] at hb; omega, TmR.ups 6 6 (TmR.of r23 hs0 hl0), TmB.ups 6 6 ⟨bs1, bs2, bs3⟩, x21.keep k23 fun b hb => by omega, kCF (kC (kCN k015 k20) k21) k23 fun i hi => by omega⟩
      have ey2 : y = h20 := by rw [ey]; exact hh20
      subst ey2
      exact bs e21 (bI rfl (bs e23 rfl))
    by_cases c2 : (n16 == (2 : Int)) = true
    · obtain ⟨o20, k20, q20⟩ := box_own (base := base) (t := 9) (h := h15) (cs := ([⟨#[]⟩, ⟨#[65]⟩, ⟨#[120]⟩, ⟨#[116, 104, 105, 114, 116, 101, 101, 110, 98, 121, 116, 101, 115]⟩] : List ByteArray).map Value.string) (by omega) rfl
      generalize hh20 : h15 ++ [some (⟨([⟨#[]⟩, ⟨#[65]⟩, ⟨#[120]⟩, ⟨#[116, 104, 105, 114, 116, 101, 101, 110, 98, 121, 116, 101, 115]⟩] : List ByteArray).map Value.string, 9⟩ : Blk)] = h20 at o20 k20 q20
      obtain ⟨s22, h21, e21, hs22, x21, k21, l21⟩ := l1Str_run (x15.keepN k20) o20.sl (fun b hb => by rw [blk_at0] at hb; omega) (by simp) (by simp)
      have hsz := bend_strs hs22
      obtain ⟨h23, e23, o23, k23, l23⟩ := ((o15.keepN k20).keepB k21 fun b hb => by rw [blk_at0] at hb; omega).wr0 (i := 2) (new := [.string s22]) (by simp) (by simp)
      have hz : setAt (termV k n s ao l.length) 2 [.string s22] = termV k n s22 ao l.length := rfl
      rw [hz] at o23
      have r23 := (((row15.keep k20 fun _ _ h => h).keep k21 fun b (hb : iS h2.length h15.length b) hu => by omega).keep k23 fun b (hb : iS h2.length h15.length b) hu => by omega).mono (q := iS h2.length h23.length) fun b hb => by constructor <;> omega
      refine ⟨h23, .mk k n s22 l, k, n, s22, ao, l.length, bs e15 (bI rfl (ifF c0 (ifF c1 (ifT c2 (lets fun y ey => ?_))))), o23, ((z15.keepN k20).keepB k21 fun b hb => by rw [blk_at0] at hb; omega).keepB k23 fun b hb => by rw [blk_at0] at hb; omega, TmR.ups 6 6 (TmR.of r23 (by simp only [maxLen]; omega) hl0), TmB.ups 6 6 ⟨by omega, bs2, bs3⟩, x21.keep k23 fun b hb => by omega, kCF (kC (kCN k015 k20) k21) k23 fun i hi => by omega⟩
      have ey2 : y = h20 := by rw [ey]; exact hh20
      subst ey2
      exact bs e21 (bT rfl (bs e23 rfl))
    by_cases c3 : (n16 == (3 : Int)) = true
    · obtain ⟨a3, h30, e30, o30, k30, b30, n30⟩ := app1 (bytes := 56) ow15 (n := l.length) (sz := 4) (cs := termV 1 4 ⟨#[]⟩ none 0) hv7 rfl (by decide) rfl (by omega) (by omega) (by omega)
      have hTb : ∀ b, T b → ¬ blk ao b := fun b hb hu => (ha7 b hu).1 hb
      have ch := (hc15.snoc (vs' := vs ++ termV 1 4 ⟨#[]⟩ none 0) (x := .mk 1 4 ⟨#[]⟩ []) (T := fun _ => False) (S' := T) (leafD (by decide)).1 (fun _ h => h.elim) (fun b hb => hb) (fun _ h => h.elim) (fun q hq => chunk_app_other (by have := mul_le' (w := 4) hq; omega)) (chunk_app_self rfl hv7)).keep (TmD.kp _) k30 hTb
      obtain ⟨h32, e32, o32, k32, l32⟩ := (o15.keep k30 fun b hb hu => by rw [blk_at0] at hb; have := (ha7 b hu).2; omega).wr0 (i := 3) (new := [.slice a3 (l.length + 1) (l.length + 1)]) (by simp) (by simp)
      have hz : setAt (termV k n s ao l.length) 3 [.slice a3 (l.length + 1) (l.length + 1)] = termV k n s a3 (l.length + 1) := rfl
      rw [hz] at o32
      have ch32 := ch.keep (TmD.kp _) k32 fun b hb hu => by have := hT7 b hb; omega
      have ow32 := o30.keepB k32 fun b hb => by have := b30 b hb; omega
      have r32 : TsR h32 (iS h2.length h32.length) 5 (l ++ [.mk 1 4 ⟨#[]⟩ []]) a3 := RowD.tsR (S := iS h2.length h32.length) ⟨_, T, ow32.sl, by simp; omega, .inr fun b hb => ⟨⟨by have := b30 b hb; omega, (ow32.lt hb).2⟩, fun hTb' => by have := b30 b hb; have := hT7 b hTb'; omega⟩, fun b hb => by have := hT7 b hb; constructor <;> omega, ch32⟩
      have of32 := TmR.of (k := k) (n := n) (s := s) r32 hs0 (by simp [maxLen]; omega)
      rw [show (l ++ [Tm.mk 1 4 ⟨#[]⟩ []]).length = l.length + 1 from by simp] at of32
      by_cases hbig : l.length + 1 ≤ 1048576
      · refine ⟨h32, .mk k n s (l ++ [.mk 1 4 ⟨#[]⟩ []]), k, n, s, a3, l.length + 1, bs e15 (bI rfl (ifF c0 (ifF c1 (ifF c2 (ifT c3 (bS (o15.at0 (i := 3) rfl) (lets fun y ey => ?_))))))), o32, (z15.keep k30 fun b hb hu => by rw [blk_at0] at hb; have := (ha7 b hu).2; omega).keepB k32 fun b hb => by rw [blk_at0] at hb; omega, TmR.ups 6 6 of32, TmB.ups 6 6 ⟨bs1, by simp; omega, fun z hz => ?_⟩, (x15.keep k30 fun b hb => by have := (ha7 b hb).2; omega).keep k32 fun b hb => by omega, kCF (kCF k015 k30 fun i hi => by have := (ha7 i hi).2; omega) k32 fun i hi => by omega⟩
        · subst ey
          exact bs e30 (bS rfl (bs e32 rfl))
        · rcases List.mem_append.1 hz with hz | hz
          · exact bs3 z hz
          · rw [List.mem_singleton] at hz; subst hz; exact (leafD (S := fun _ => True) (h := h) (by decide)).2
      · exact absurd hbig (by have := hsmall; omega)
    by_cases c4 : (n16 == (4 : Int)) = true
    · have m15 := TmR.of (k := k) (n := n) (s := s) row15 hs0 hl0
      obtain ⟨h33, t', k', n', s', a', m', e33, o33, m33, b33, k33⟩ := l1Bend_loop (base := base) (b0 := h.length) (b1 := h1.length) (lo := h2.length) (by omega) (by omega) (by omega) 6 0 6 h15 (.mk k n s l) k n s ao l.length (by omega) (by omega) o15 m15 ⟨bs1, bs2, bs3⟩
      rw [show ((0 : Nat) : Int) = 0 from rfl] at e33
      exact ⟨h33, t', k', n', s', a', m', bs e15 (bI rfl (ifF c0 (ifF c1 (ifF c2 (ifF c3 (ifT c4 (bs e33 (ifT rfl (bs rfl (bs rfl rfl)))))))))), o33, z15.keep k33 fun b hb hu => by rw [blk_at0] at hb; omega, m33, b33, x15.keep k33 fun b hb => by omega, kCF k015 k33 fun i hi => by omega⟩
    · exact ⟨h15, .mk k n s l, k, n, s, ao, l.length, bs e15 (bI rfl (ifF c0 (ifF c1 (ifF c2 (ifF c3 (ifF c4 rfl)))))), o15, z15, TmR.ups 6 6 (TmR.of row15 hs0 hl0), TmB.ups 6 6 ⟨bs1, bs2, bs3⟩, x15, k015⟩
  have nJ := kJ.1
  obtain ⟨h42, e42, o42, k42, l42⟩ := zJ.wr0 (i := 0) (new := termV k' n' s' a' m') (by simp) (by simp)
  have hz : setAt (termV 0 0 ⟨#[]⟩ none 0) 0 (termV k' n' s' a' m') = termV k' n' s' a' m' := rfl
  rw [hz] at o42
  have m42 := TmR.keep k42 (fun b (hb : iS h2.length hJ.length b) hu => by omega) _ _ _ mJ
  refine ⟨t', k', n', s', a', m', h42, r114 (lets fun y ey => ?_), m42.mono (fun b hb => by constructor <;> omega) _ _ _, bJ, xJ.keep k42 fun b hb => by omega, kCF kJ k42 fun i hi => by omega⟩
  have ey2 : y = h1 := by rw [ey]; exact hh1
  subst ey2
  refine lets fun y ey => ?_
  have ey2 : y = h2 := by rw [ey]; exact hh2
  subst ey2
  refine q4 (o1.keepN k2) (bs e7 (bs (v := termV k n s ao l.length) rfl (bI rfl (bI rfl (bT rfl (bS rfl (bs e13 ?_)))))))
  exact bj _ eJ (bs rfl (bs rfl (q4 oJ (bs e42 (q4 o42 rfl)))))
end Go.Proofs.Ytgigdaijailfkaa.Am
