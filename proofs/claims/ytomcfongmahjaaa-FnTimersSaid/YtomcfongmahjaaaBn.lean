/- What is drawn: terms and timers that are bent.
Conditions: none. -/
import Derived.Test.YtomcfongmahjaaaDt
set_option linter.unusedSimpArgs false
set_option linter.unusedVariables false
namespace Go.Proofs.Ytomcfongmahjaaa.Am
open Go Go.RowKit

theorem tm_leaf {f : Nat} {p : Nat → Prop} {h : AH} {k n : Int} {s : ByteArray} (hs : s.size ≤ 1048576) : TmR h p (f + 1) (.mk k n s []) (termV k n s none 0) :=
  ⟨by simp only [maxLen]; omega, by simp [maxLen], none, [], rfl, .inl rfl, .inl rfl, by simp, fun i t hi => by simp at hi⟩

/-- A copy whose row is one's own. -/
theorem l1CopyO_run {base f : Nat} {h : AH} {p : Nat → Prop} {k n : Int} {s : ByteArray} {l : List Tm} {cs : List Value} (x : TmR h p (f + 1) (.mk k n s l) cs) (hB : TmB (f + 1) (.mk k n s l)) (hb : base ≤ h.length) (hp : ∀ b, p b → b < h.length) :
    ∃ ao vs T h', run (Et base) 29 [.agg cs.toArray] h = some (.agg (termV k n s ao l.length).toArray, h') ∧ Own base 27 h' ao vs ∧ vs.length = l.length * 4 ∧ (∀ b, blk ao b → ¬ T b ∧ h.length ≤ b) ∧ (∀ b, T b → h.length ≤ b ∧ b < h'.length) ∧ Chunks 4 (TmD f) T h' l vs ∧ KB NoB h h' := by
    obtain ⟨a, rfl, hts, hs, hl⟩ := x.parts
    obtain ⟨b1, b2, b3⟩ := hB
    obtain ⟨o1, k1, q1⟩ := box_own (base := base) (t := 27) (h := h) (cs := termV k n s a l.length) hb rfl
    generalize hh1 : h ++ [some (⟨termV k n s a l.length, 27⟩ : Blk)] = h1 at o1 k1 q1
    obtain ⟨o2, k2, q2⟩ := box_own (base := base) (t := 27) (h := h1) (cs := termV 0 0 ⟨#[]⟩ none 0) (by omega) rfl
    generalize hh2 : h1 ++ [some (⟨termV 0 0 ⟨#[]⟩ none 0, 27⟩ : Blk)] = h2 at o2 k2 q2
    obtain ⟨o3, k3, q3⟩ := box_own (base := base) (t := 27) (h := h2) (cs := termV k n s a l.length) (by omega) rfl
    generalize hh3 : h2 ++ [some (⟨termV k n s a l.length, 27⟩ : Blk)] = h3 at o3 k3 q3
    obtain ⟨o4, k4, q4'⟩ := box_own (base := base) (t := 27) (h := h3) (cs := []) (by omega) rfl
    generalize hh4 : h3 ++ [some (⟨[], 27⟩ : Blk)] = h4 at o4 k4 q4'
    obtain ⟨h5, e5, o5, k5, l5⟩ := (o3.keepN k4).wr0 (i := 3) (new := [.slice (at0 h3.length) 0 0]) (by simp) (by simp)
    have hset : setAt (termV k n s a l.length) 3 [.slice (at0 h3.length) 0 0] = termV k n s (at0 h3.length) 0 := rfl
    rw [hset] at o5
    have k04 : KB NoB h h4 := kN (kN (kN k1 k2) k3) k4
    have k05 : KB NoB h h5 := kFresh k04 k5 fun i hi => by omega
    obtain ⟨h6, ao, vs, T, e6, oo6, ow6, hv6, hc6, hT6, ha6, k6⟩ := l1Copy_loop (base := base) (l1Copy_run f) (p := p) (l := l) (a := a) (b0 := h.length) (b1 := h1.length) (b2 := h2.length) (k := k) (n := n) (s := s) b2 b3 (fun b hb => by have := hp b hb; omega) (by omega) (by omega) l.length 0 h5 (at0 h3.length) [] (fun _ => False) (by omega) (hts.keep k05 fun _ _ h => h) (by omega)
      ((((o1.keepN k2).keepN k3).keepN k4).keepB k5 fun i hi => by rw [blk_at0] at hi; omega) o5 (o4.keepB k5 fun i hi => by rw [blk_at0] at hi; omega) (by simp) Chunks.nil (fun _ h => h.elim) (fun b hb => by rw [blk_at0] at hb; exact ⟨fun h => h, by omega⟩)
    have n6 := k6.1
    have z6 := (((o2.keepN k3).keepN k4).keepB k5 fun i hi => by rw [blk_at0] at hi; omega).keep k6 fun b hb hk => by rw [blk_at0] at hb; omega
    obtain ⟨h7, e7, o7, k7, l7⟩ := z6.wr0 (i := 0) (new := termV k n s ao l.length) (by simp) (by simp)
    have hz : setAt (termV 0 0 ⟨#[]⟩ none 0) 0 (termV k n s ao l.length) = termV k n s ao l.length := rfl
    rw [hz] at o7
    have ow7 := ow6.keepB k7 fun b hb => by have := (ha6 b hb).2; omega
    have hc7 := hc6.keep (TmD.kp _) k7 fun b hb hk => by have := hT6 b hb; omega
    refine ⟨ao, vs, T, h7, r29 (lets fun y1 ey => ?_), ow7, hv6, fun b hb' => ⟨(ha6 b hb').1, by have := (ha6 b hb').2; omega⟩, fun b hb' => by have := hT6 b hb'; constructor <;> omega, hc7, kFresh (kFresh k05 k6 fun i hi => by omega) k7 fun i hi => by omega⟩
    rw [hh1] at ey
    subst ey
    refine lets fun y2 ey => ?_
    rw [hh2] at ey
    subst ey
    refine q4 (o1.keepN k2) (nw (by omega) rfl fun y3 ey => ?_)
    rw [hh3] at ey
    subst ey
    refine lets fun y4 ey => ?_
    rw [hh4] at ey
    subst ey
    refine bs e5 ?_
    rw [show ((0 : Nat) : Int) = 0 from rfl] at e6
    refine bs e6 (ifT rfl (bs rfl (bs rfl (q4 oo6 (bs e7 (q4 o7 rfl))))))

theorem bend_loop {base b1 b2 : Nat} : ∀ (d i : Nat) (h : AH) (t : Tm) (k n : Int) (s : ByteArray) (a : Option Addr) (m F : Nat), i + d = 6 → Own base 27 h (at0 b1) (termV k n s a m) → TmR h (iS (b2 + 1) h.length) F t (termV k n s a m) → TmB F t → b1 < b2 → b2 < h.length → base ≤ b1 →
    ∃ h' t' k' n' s' a' m', loopL (B54_0 base) [some (.pointer (at0 b1)), some (.pointer (at0 b2)), some (.int .i64 (i : Int))] h = some (3, [some (.pointer (at0 b1)), some (.pointer (at0 b2))], h') ∧ Own base 27 h' (at0 b1) (termV k' n' s' a' m') ∧ TmR h' (iS (b2 + 1) h'.length) (F + d) t' (termV k' n' s' a' m') ∧ TmB (F + d) t' ∧ KB (· = b1) h h' := by
  intro d
  induction d with
  | zero =>
    intro i h t k n s a m F hi o hm hB h1 h2 h3
    refine ⟨h, t, k, n, s, a, m, loop_off (by decide) ?_, o, hm, hB, KB.refl _ _⟩
    rw [B54_0_eq]
    exact ifF (by simp; omega) rfl
  | succ d ih =>
    intro i h t k n s a m F hi o hm hB h1 h2 h3
    obtain ⟨o5, k5, q5⟩ := box_own (base := base) (t := 27) (h := h) (cs := termV 0 0 ⟨#[]⟩ none 0) (by omega) rfl
    generalize hh5 : h ++ [some (⟨termV 0 0 ⟨#[]⟩ none 0, 27⟩ : Blk)] = h5 at o5 k5 q5
    obtain ⟨h6, e6, o6, k6, l6⟩ := o5.wr0 (i := 0) (new := termV k n s a m) (by simp) (by simp)
    have hz : setAt (termV 0 0 ⟨#[]⟩ none 0) 0 (termV k n s a m) = termV k n s a m := rfl
    rw [hz] at o6
    obtain ⟨o11, k11, q11⟩ := box_own (base := base) (t := 27) (h := h6) (cs := termV k n s a m) (by omega) rfl
    generalize hh11 : h6 ++ [some (⟨termV k n s a m, 27⟩ : Blk)] = h11 at o11 k11 q11
    have k06 : KB NoB h h6 := kFresh k5 k6 fun i hi => by omega
    have k011 : KB NoB h h11 := kN k06 k11
    obtain ⟨h12, e12, o12, k12, l12⟩ := (o.keepN k011).wr0 (i := 0) (new := termV 4 0 ⟨#[]⟩ (at0 h6.length) 1) (by simp) (by simp)
    have hz : setAt (termV k n s a m) 0 (termV 4 0 ⟨#[]⟩ (at0 h6.length) 1) = termV 4 0 ⟨#[]⟩ (at0 h6.length) 1 := rfl
    rw [hz] at o12
    have k012 : KB (· = b1) h h12 := kNB k011 k12
    have o11' := o11.keep k12 fun b hb hk => by rw [blk_at0] at hb; omega
    have hm12 := TmR.keep k012 (fun b (hb : iS (b2 + 1) h.length b) hk => by omega) _ _ _ hm
    have R12 : TsR h12 (iS (b2 + 1) h12.length) F [t] (at0 h6.length) := ⟨_, o11'.sl, .inr fun b hb => by rw [blk_at0] at hb; subst hb; constructor <;> omega, by simp, fun j y hy => by
      match j, hy with
      | 0, hy =>
        simp only [List.getElem?_cons_zero, Option.some.injEq] at hy
        subst hy
        exact hm12.mono (fun b hb => by constructor <;> omega) _ _ _
      | j + 1, hy => simp at hy⟩
    have T12 : TmR h12 (iS (b2 + 1) h12.length) (F + 1) (.mk 4 0 ⟨#[]⟩ [t]) (termV 4 0 ⟨#[]⟩ (at0 h6.length) 1) := TmR.of R12 (by decide) (by simp [maxLen])
    have B12 : TmB (F + 1) (.mk 4 0 ⟨#[]⟩ [t]) := ⟨by decide, by simp, fun y hy => by rw [List.mem_singleton] at hy; subst hy; exact hB⟩
    obtain ⟨h', t', k', n', s', a', m', e, w1, w2, w3, w4⟩ := ih (i + 1) h12 _ _ _ _ _ _ (F + 1) (by omega) o12 T12 B12 h1 (by omega) h3
    rw [show F + 1 + d = F + (d + 1) from by omega] at w2 w3
    refine ⟨h', t', k', n', s', a', m', loop_on ?_ e, w1, w2, w3, KB.trans k012 w4 (fun _ _ h => h) (fun _ _ h => h)⟩
    rw [B54_0_eq]
    refine ifT (decide_eq_true (by omega)) (q4 o (lets fun y ey => ?_))
    rw [hh5] at ey
    subst ey
    refine bs e6 (q4 o6 (lets fun y ey => ?_))
    rw [hh11] at ey
    subst ey
    refine bs e12 ?_
    rw [w64i (n := (i : Int) + 1) (by omega) (by omega)]
    rfl

theorem l1Bend_run {base cb f : Nat} {h : AH} {p : Nat → Prop} {t : Tm} {cs : List Value} (x : CurR base cb h) (hm : TmR h p (f + 1) t cs) (hB : TmB (f + 1) t) (hl : t.len ≤ 1000) (hp : ∀ b, p b → b < h.length) :
    ∃ t' k' n' s' a' m' h', run (Et base) 54 [.pointer (at0 cb), .agg cs.toArray] h = some (.agg (termV k' n' s' a' m').toArray, h') ∧ TmR h' (iS h.length h'.length) (f + 7) t' (termV k' n' s' a' m') ∧ TmB (f + 7) t' ∧ CurR base cb h' ∧ KB (· = cb) h h' := by
  have hlt := x.lt
  obtain ⟨k, n, s, l⟩ := t
  simp only [Tm.len] at hl
  obtain ⟨a, rfl, hts, hss, _⟩ := hm.parts
  have hB' := hB
  obtain ⟨B1, B2, B3⟩ := hB
  obtain ⟨o1, k1, q1⟩ := box_own (base := base) (t := 27) (h := h) (cs := termV k n s a l.length) (by omega) rfl
  generalize hh1 : h ++ [some (⟨termV k n s a l.length, 27⟩ : Blk)] = h1 at o1 k1 q1
  obtain ⟨o2, k2, q2⟩ := box_own (base := base) (t := 27) (h := h1) (cs := termV 0 0 ⟨#[]⟩ none 0) (by omega) rfl
  generalize hh2 : h1 ++ [some (⟨termV 0 0 ⟨#[]⟩ none 0, 27⟩ : Blk)] = h2 at o2 k2 q2
  have k02 := kN k1 k2
  have o1' := o1.keepN k2
  obtain ⟨ao, vs, T, h3, e3, ow3, hv3, ha3, hT3, hc3, k3⟩ := l1CopyO_run (base := base) (TmR.keep k02 (fun _ _ h => h) _ _ _ hm) hB' (by omega) (fun b hb => by have := hp b hb; omega)
  have n3 := k3.1
  obtain ⟨h4, e4, o4, k4, l4⟩ := (o1'.keepN k3).wr0 (i := 0) (new := termV k n s ao l.length) (by simp) (by simp)
  have hz : setAt (termV k n s a l.length) 0 (termV k n s ao l.length) = termV k n s ao l.length := rfl
  rw [hz] at o4
  have z4 := (o2.keepN k3).keep k4 fun b hb hk => by rw [blk_at0] at hb; omega
  have k04 : KB NoB h h4 := kFresh (kN k02 k3) k4 fun i hi => by omega
  obtain ⟨z, h5, e5, z0, z1, _, x5, k5, l5⟩ := l1Below_run (n := 6) (x.keepN k04) (by omega)
  have o5 := o4.keep k5 fun b hb hk => by rw [blk_at0] at hb; omega
  have zz5 := z4.keep k5 fun b hb hk => by rw [blk_at0] at hb; omega
  have ow5 := (ow3.keep k4 fun b hb hk => by have := (ha3 b hb).2; omega).keep k5 fun b hb hk => by have := (ha3 b hb).2; omega
  have hc5 := (hc3.keep (TmD.kp _) k4 fun b hb hk => by have := hT3 b hb; omega).keep (TmD.kp _) k5 fun b hb hk => by have := hT3 b hb; omega
  have k05 : KB (· = cb) h h5 := kNB k04 k5
  have R5 : TsR h5 (iS (h1.length + 1) h5.length) f l ao := by
    obtain ⟨C, c1, c2, c3⟩ := hc5
    exact ⟨vs, ow5.sl, .inr fun b hb => ⟨by have := (ha3 b hb).2; omega, (ow5.lt hb).2⟩, hv3, fun i t hi => (TmD.tmR _ _ _ _ _ (c3 i t hi)).mono (fun b hb => by have := hT3 b (c1 i b hb); constructor <;> omega) _ _ _⟩
  have start : ∀ {q : Slots × AH} {r : Value × AH},
      ((if (z == (0 : Int)) = true then
      (run (Et base) 40 [(.pointer (at0 cb)), (.int .i64 (8 : Int))] h5).bind fun r17 =>
      ((some r17.1).bind (getI .i64)).bind fun n18 =>
      (Am.wr base r17.2 (List.length h) 0 [(.int .i64 n18)]).bind fun h19 =>
      some (Sum.inl ([some (.pointer (some ⟨(List.length h), 0, none⟩)), some (.pointer (some ⟨(List.length h1), 0, none⟩))], h19))
      else
      (if (z == (1 : Int)) = true then
      (some (h5 ++ [some ⟨[(.int .i64 (-1 : Int)), (.int .i64 (1000001 : Int)), (.int .i64 (100000 : Int)), (.int .i64 (3 : Int))], 3⟩])).bind fun h20 =>
      (run (Et base) 42 [(.pointer (at0 cb)), (.slice (some ⟨(List.length h5), 0, none⟩) 4 4)] h20).bind fun r21 =>
      ((some r21.1).bind (getI .i64)).bind fun n22 =>
      (Am.wr base r21.2 (List.length h) 1 [(.int .i64 n22)]).bind fun h23 =>
      some (.inl ([some (.pointer (some ⟨(List.length h), 0, none⟩)), some (.pointer (some ⟨(List.length h1), 0, none⟩))], h23))
      else
      (if (z == (2 : Int)) = true then
      (some (h5 ++ [some ⟨[(.string (⟨#[]⟩ : ByteArray)), (.string (⟨#[65]⟩ : ByteArray)), (.string (⟨#[120]⟩ : ByteArray)), (.string (⟨#[116, 104, 105, 114, 116, 101, 101, 110, 98, 121, 116, 101, 115]⟩ : ByteArray))], 9⟩])).bind fun h24 =>
      (run (Et base) 58 [(.pointer (at0 cb)), (.slice (some ⟨(List.length h5), 0, none⟩) 4 4)] h24).bind fun r25 =>
      ((some r25.1).bind getStr).bind fun s26 =>
      (Am.wr base r25.2 (List.length h) 2 [(.string s26)]).bind fun h27 =>
      some (.inl ([some (.pointer (some ⟨(List.length h), 0, none⟩)), some (.pointer (some ⟨(List.length h1), 0, none⟩))], h27))
      else
      (if (z == (3 : Int)) = true then
      ((Am.cell h5 (List.length h) 3).bind getS).bind fun l28 =>
      (some (h5 ++ [some ⟨[(.int .i64 (1 : Int)), (.int .i64 (4 : Int)), (.string (⟨#[]⟩ : ByteArray)), (.slice none 0 0)], 27⟩])).bind fun h29 =>
      (Am.app base h29 27 4 56 l28.1 l28.2 (rawAt h29 (some ⟨(List.length h5), 0, none⟩) (1 * 4)) 1).bind fun p30 =>
      ((some p30.1).bind getS).bind fun l31 =>
      (Am.wr base p30.2 (List.length h) 3 [(.slice l31.1 l31.2 l31.2)]).bind fun h32 =>
      some (.inl ([some (.pointer (some ⟨(List.length h), 0, none⟩)), some (.pointer (some ⟨(List.length h1), 0, none⟩))], h32))
      else
      (if (z == (4 : Int)) = true then
      (loopL (B54_0 base) [some (.pointer (some ⟨(List.length h), 0, none⟩)), some (.pointer (some ⟨(List.length h1), 0, none⟩)), some (.int .i64 (0 : Int))] h5).bind fun q33 =>
      (if q33.1 = 3 then
      ((sget q33.2.1 0).bind getA).bind fun d34 =>
      ((sget (q33.2.1.tail) 0).bind getA).bind fun d35 =>
      some (.inl ([some (.pointer (some d34)), some (.pointer (some d35))], q33.2.2))
      else
      none)
      else
      some (.inl ([some (.pointer (some ⟨(List.length h), 0, none⟩)), some (.pointer (some ⟨(List.length h1), 0, none⟩))], h5)))))) : Option (Sum (Slots × AH) (Value × AH)))) = some (Sum.inl q) →
      (((sget q.1 0).bind getA).bind fun d36 =>
      ((sget (q.1.tail) 0).bind getA).bind fun d37 =>
      ((Am.cell q.2 d36.block d36.off).bind (getI .i64)).bind fun n38 =>
      ((Am.cell q.2 d36.block (d36.off + 1)).bind (getI .i64)).bind fun n39 =>
      ((Am.cell q.2 d36.block ((d36.off + 1) + 1)).bind getStr).bind fun s40 =>
      ((Am.cell q.2 d36.block (((d36.off + 1) + 1) + 1)).bind getS).bind fun l41 =>
      (Am.wr base q.2 d37.block d37.off [(.int .i64 n38), (.int .i64 n39), (.string s40), (.slice l41.1 l41.2 l41.2)]).bind fun h42 =>
      ((Am.cell h42 d37.block d37.off).bind (getI .i64)).bind fun n43 =>
      ((Am.cell h42 d37.block (d37.off + 1)).bind (getI .i64)).bind fun n44 =>
      ((Am.cell h42 d37.block ((d37.off + 1) + 1)).bind getStr).bind fun s45 =>
      ((Am.cell h42 d37.block (((d37.off + 1) + 1) + 1)).bind getS).bind fun l46 =>
      some (Value.agg #[(.int .i64 n43), (.int .i64 n44), (.string s45), (.slice l46.1 l46.2 l46.2)], h42)) = some r →
      run (Et base) 54 [.pointer (at0 cb), .agg (termV k n s a l.length).toArray] h = some r := by
    intro q r hq hr
    refine r54 (lets fun y ey => ?_)
    rw [hh1] at ey
    subst ey
    refine lets fun y ey => ?_
    rw [hh2] at ey
    subst ey
    exact q4 o1' (bs e3 (bs (v := termV k n s ao l.length) rfl (bI rfl (bI rfl (bT rfl (bS rfl (bs e4 (bj q (bs e5 (bI rfl hq)) hr))))))))
  have fin : ∀ {hj : AH} {t' : Tm} {k' n' : Int} {s' : ByteArray} {a' : Option Addr} {m' : Nat}, ((if (z == (0 : Int)) = true then
      (run (Et base) 40 [(.pointer (at0 cb)), (.int .i64 (8 : Int))] h5).bind fun r17 =>
      ((some r17.1).bind (getI .i64)).bind fun n18 =>
      (Am.wr base r17.2 (List.length h) 0 [(.int .i64 n18)]).bind fun h19 =>
      some (Sum.inl ([some (.pointer (some ⟨(List.length h), 0, none⟩)), some (.pointer (some ⟨(List.length h1), 0, none⟩))], h19))
      else
      (if (z == (1 : Int)) = true then
      (some (h5 ++ [some ⟨[(.int .i64 (-1 : Int)), (.int .i64 (1000001 : Int)), (.int .i64 (100000 : Int)), (.int .i64 (3 : Int))], 3⟩])).bind fun h20 =>
      (run (Et base) 42 [(.pointer (at0 cb)), (.slice (some ⟨(List.length h5), 0, none⟩) 4 4)] h20).bind fun r21 =>
      ((some r21.1).bind (getI .i64)).bind fun n22 =>
      (Am.wr base r21.2 (List.length h) 1 [(.int .i64 n22)]).bind fun h23 =>
      some (.inl ([some (.pointer (some ⟨(List.length h), 0, none⟩)), some (.pointer (some ⟨(List.length h1), 0, none⟩))], h23))
      else
      (if (z == (2 : Int)) = true then
      (some (h5 ++ [some ⟨[(.string (⟨#[]⟩ : ByteArray)), (.string (⟨#[65]⟩ : ByteArray)), (.string (⟨#[120]⟩ : ByteArray)), (.string (⟨#[116, 104, 105, 114, 116, 101, 101, 110, 98, 121, 116, 101, 115]⟩ : ByteArray))], 9⟩])).bind fun h24 =>
      (run (Et base) 58 [(.pointer (at0 cb)), (.slice (some ⟨(List.length h5), 0, none⟩) 4 4)] h24).bind fun r25 =>
      ((some r25.1).bind getStr).bind fun s26 =>
      (Am.wr base r25.2 (List.length h) 2 [(.string s26)]).bind fun h27 =>
      some (.inl ([some (.pointer (some ⟨(List.length h), 0, none⟩)), some (.pointer (some ⟨(List.length h1), 0, none⟩))], h27))
      else
      (if (z == (3 : Int)) = true then
      ((Am.cell h5 (List.length h) 3).bind getS).bind fun l28 =>
      (some (h5 ++ [some ⟨[(.int .i64 (1 : Int)), (.int .i64 (4 : Int)), (.string (⟨#[]⟩ : ByteArray)), (.slice none 0 0)], 27⟩])).bind fun h29 =>
      (Am.app base h29 27 4 56 l28.1 l28.2 (rawAt h29 (some ⟨(List.length h5), 0, none⟩) (1 * 4)) 1).bind fun p30 =>
      ((some p30.1).bind getS).bind fun l31 =>
      (Am.wr base p30.2 (List.length h) 3 [(.slice l31.1 l31.2 l31.2)]).bind fun h32 =>
      some (.inl ([some (.pointer (some ⟨(List.length h), 0, none⟩)), some (.pointer (some ⟨(List.length h1), 0, none⟩))], h32))
      else
      (if (z == (4 : Int)) = true then
      (loopL (B54_0 base) [some (.pointer (some ⟨(List.length h), 0, none⟩)), some (.pointer (some ⟨(List.length h1), 0, none⟩)), some (.int .i64 (0 : Int))] h5).bind fun q33 =>
      (if q33.1 = 3 then
      ((sget q33.2.1 0).bind getA).bind fun d34 =>
      ((sget (q33.2.1.tail) 0).bind getA).bind fun d35 =>
      some (.inl ([some (.pointer (some d34)), some (.pointer (some d35))], q33.2.2))
      else
      none)
      else
      some (.inl ([some (.pointer (some ⟨(List.length h), 0, none⟩)), some (.pointer (some ⟨(List.length h1), 0, none⟩))], h5)))))) : Option (Sum (Slots × AH) (Value × AH)))) = some (Sum.inl ([some (.pointer (at0 h.length)), some (.pointer (at0 h1.length))], hj)) →
      Own base 27 hj (at0 h.length) (termV k' n' s' a' m') → KB (fun b => b = cb ∨ b = h.length ∨ blk ao b) h5 hj → TmR hj (iS (h1.length + 1) hj.length) (f + 7) t' (termV k' n' s' a' m') → TmB (f + 7) t' → CurR base cb hj →
      ∃ t' k' n' s' a' m' h', run (Et base) 54 [.pointer (at0 cb), .agg (termV k n s a l.length).toArray] h = some (.agg (termV k' n' s' a' m').toArray, h') ∧ TmR h' (iS h.length h'.length) (f + 7) t' (termV k' n' s' a' m') ∧ TmB (f + 7) t' ∧ CurR base cb h' ∧ KB (· = cb) h h' := by
    intro hj t' k' n' s' a' m' ej oj kj hmj hBj xj
    have nj := kj.1
    have zj := zz5.keep kj fun b hb hk => by
      rw [blk_at0] at hb
      rcases hk with hk | hk | hk
      · omega
      · omega
      · have := (ha3 b hk).2; omega
    obtain ⟨h42, e42, o42, k42, l42⟩ := zj.wr0 (i := 0) (new := termV k' n' s' a' m') (by simp) (by simp)
    have hz : setAt (termV 0 0 ⟨#[]⟩ none 0) 0 (termV k' n' s' a' m') = termV k' n' s' a' m' := rfl
    rw [hz] at o42
    have hm42 := TmR.keep k42 (fun b (hb : iS (h1.length + 1) hj.length b) hk => by omega) _ _ _ hmj
    refine ⟨t', k', n', s', a', m', h42, start ej (bs rfl (bs rfl (q4 oj (bs e42 (q4 o42 rfl))))), hm42.mono (fun b hb => by constructor <;> omega) _ _ _, hBj, xj.keep k42 fun b hb => by omega, kCF (KB.trans k05 kj (fun _ _ h => h) (fun i hi hk => ?_)) k42 fun i hi => by omega⟩
    rcases hk with hk | hk | hk
    · exact hk
    · omega
    · have := (ha3 i hk).2; omega
  have up : ∀ {hj : AH} {t' : Tm} {cs : List Value} {P : Nat → Prop}, TmR hj P (f + 1) t' cs → TmR hj P (f + 7) t' cs := fun y => y.le (by omega)
  have row : ∀ {hj : AH} {S : Nat → Prop} {k' n' : Int} {s' : ByteArray}, KB S h5 hj → (∀ b, S b → b = cb ∨ b = h.length ∨ h5.length ≤ b) → s'.size ≤ 1048576 → TmR hj (iS (h1.length + 1) hj.length) (f + 7) (.mk k' n' s' l) (termV k' n' s' ao l.length) ∧ TmB (f + 7) (.mk k' n' s' l) := by
    intro hj S k' n' s' kj hS hs'
    have nj := kj.1
    have hs7 : TmB (f + 1) (.mk k' n' s' l) := ⟨hs', B2, B3⟩
    refine ⟨up (TmR.of ?_ (by simp only [maxLen]; omega) (by simp only [maxLen]; omega)), hs7.le (by omega)⟩
    obtain ⟨ws, r1, r2, r3, r4⟩ := R5.keep kj fun b hb hk => by have := hS b hk; omega
    exact ⟨ws, r1, r2.imp id fun g b hb => by have := g b hb; constructor <;> omega, r3, fun i t hi => (r4 i t hi).mono (fun b hb => by constructor <;> omega) _ _ _⟩
  by_cases c0 : z = 0
  · subst c0
    obtain ⟨n18, h6, e6, _, _, _, x6, k6, l6⟩ := l1Below_run (n := 8) x5 (by omega)
    obtain ⟨h7, e7, o7, k7, l7⟩ := (o5.keep k6 fun b hb hk => by rw [blk_at0] at hb; omega).wr0 (i := 0) (new := [.int .i64 n18]) (by simp) (by simp)
    have hz : setAt (termV k n s ao l.length) 0 [.int .i64 n18] = termV n18 n s ao l.length := rfl
    rw [hz] at o7
    have k57 : KB (fun b => b = cb ∨ b = h.length) h5 h7 := KB.trans k6 k7 (fun _ _ h => .inl h) (fun _ _ h => .inr h)
    obtain ⟨r1, r2⟩ := row (k' := n18) (n' := n) (s' := s) k57 (fun b hb => hb.imp id .inl) B1
    exact fin (ifT rfl (bs e6 (bI rfl (bs e7 rfl)))) o7 (k57.mono fun b _ hb => hb.imp id .inl) r1 r2 (x6.keep k7 fun b hb => by omega)
  by_cases c1 : z = 1
  · subst c1
    obtain ⟨o20, k20, q20⟩ := box_own (base := base) (t := 3) (h := h5) (cs := iv .i64 [-1, 1000001, 100000, 3]) (by omega) rfl
    generalize hh20 : h5 ++ [some (⟨iv .i64 [-1, 1000001, 100000, 3], 3⟩ : Blk)] = h20 at o20 k20 q20
    obtain ⟨n22, h6, e6, _, x6, k6, l6⟩ := l1Int_run (x5.keepN k20) o20.sl (fun b hb => by rw [blk_at0] at hb; omega) (by simp) (by simp)
    obtain ⟨h7, e7, o7, k7, l7⟩ := ((o5.keepN k20).keep k6 fun b hb hk => by rw [blk_at0] at hb; omega).wr0 (i := 1) (new := [.int .i64 n22]) (by simp) (by simp)
    have hz : setAt (termV k n s ao l.length) 1 [.int .i64 n22] = termV k n22 s ao l.length := rfl
    rw [hz] at o7
    have k57 : KB (fun b => b = cb ∨ b = h.length) h5 h7 := KB.trans (kNB k20 k6) k7 (fun _ _ h => .inl h) (fun _ _ h => .inr h)
    obtain ⟨r1, r2⟩ := row (k' := k) (n' := n22) (s' := s) k57 (fun b hb => hb.imp id .inl) B1
    refine fin (ifF (by decide) (ifT rfl (lets fun y ey => ?_))) o7 (k57.mono fun b _ hb => hb.imp id .inl) r1 r2 (x6.keep k7 fun b hb => by omega)
    have ey2 : y = h20 := by rw [ey]; exact hh20
    subst ey2
    exact bs e6 (bI rfl (bs e7 rfl))
  by_cases c2 : z = 2
  · subst c2
    obtain ⟨o20, k20, q20⟩ := box_own (base := base) (t := 9) (h := h5) (cs := [⟨#[]⟩, ⟨#[65]⟩, ⟨#[120]⟩, ⟨#[116, 104, 105, 114, 116, 101, 101, 110, 98, 121, 116, 101, 115]⟩].map Value.string) (by omega) rfl
    generalize hh20 : h5 ++ [some (⟨[⟨#[]⟩, ⟨#[65]⟩, ⟨#[120]⟩, ⟨#[116, 104, 105, 114, 116, 101, 101, 110, 98, 121, 116, 101, 115]⟩].map Value.string, 9⟩ : Blk)] = h20 at o20 k20 q20
    obtain ⟨s26, h6, e6, hs26, x6, k6, l6⟩ := l1Str_run (x5.keepN k20) o20.sl (fun b hb => by rw [blk_at0] at hb; omega) (by simp) (by simp)
    have hsz : s26.size ≤ 1048576 := by
      have : ∀ s ∈ ([⟨#[]⟩, ⟨#[65]⟩, ⟨#[120]⟩, ⟨#[116, 104, 105, 114, 116, 101, 101, 110, 98, 121, 116, 101, 115]⟩] : List ByteArray), s.size ≤ 1048576 := by
        simp only [List.forall_mem_cons]
        exact ⟨by decide, by decide, by decide, by decide, fun _ h => nomatch h⟩
      exact this s26 hs26
    obtain ⟨h7, e7, o7, k7, l7⟩ := ((o5.keepN k20).keep k6 fun b hb hk => by rw [blk_at0] at hb; omega).wr0 (i := 2) (new := [.string s26]) (by simp) (by simp)
    have hz : setAt (termV k n s ao l.length) 2 [.string s26] = termV k n s26 ao l.length := rfl
    rw [hz] at o7
    have k57 : KB (fun b => b = cb ∨ b = h.length) h5 h7 := KB.trans (kNB k20 k6) k7 (fun _ _ h => .inl h) (fun _ _ h => .inr h)
    obtain ⟨r1, r2⟩ := row (k' := k) (n' := n) (s' := s26) k57 (fun b hb => hb.imp id .inl) hsz
    refine fin (ifF (by decide) (ifF (by decide) (ifT rfl (lets fun y ey => ?_)))) o7 (k57.mono fun b _ hb => hb.imp id .inl) r1 r2 (x6.keep k7 fun b hb => by omega)
    have ey2 : y = h20 := by rw [ey]; exact hh20
    subst ey2
    exact bs e6 (bT rfl (bs e7 rfl))
  by_cases c3 : z = 3
  · subst c3
    obtain ⟨a6, h6, e6, o6, k6, b6, n6⟩ := app1 (bytes := 56) ow5 (n := l.length) (sz := 4) (cs := termV 1 4 ⟨#[]⟩ none 0) hv3 rfl (by decide) rfl (by omega) (by omega) (by omega)
    obtain ⟨h7, e7, o7, k7, l7⟩ := (o5.keep k6 fun b hb hk => by rw [blk_at0] at hb; have := (ha3 b hk).2; omega).wr0 (i := 3) (new := [.slice a6 (l.length + 1) (l.length + 1)]) (by simp) (by simp)
    have hz : setAt (termV k n s ao l.length) 3 [.slice a6 (l.length + 1) (l.length + 1)] = termV k n s a6 (l.length + 1) := rfl
    rw [hz] at o7
    have k57 : KB (fun b => b = h.length ∨ blk ao b) h5 h7 := KB.trans k6 k7 (fun _ _ h => .inr h) (fun _ _ h => .inl h)
    have o67 := o6.keep k7 fun b hb hk => by have := b6 b hb; omega
    have hc7 := hc5.keep (TmD.kp _) k57 fun b hb hk => by
      rcases hk with hk | hk
      · have := hT3 b hb; omega
      · exact (ha3 b hk).1 hb
    have R7 : TsR h7 (iS (h1.length + 1) h7.length) (f + 1) (l ++ [.mk 1 4 ⟨#[]⟩ []]) a6 := by
      obtain ⟨C, q1, q2, q3⟩ := hc7
      refine ⟨_, o67.sl, .inr fun b hb => by have := b6 b hb; have := (o67.lt hb).2; constructor <;> omega, by simp; omega, fun i t hi => ?_⟩
      have hlt : i < l.length + 1 := by have := (List.getElem?_eq_some_iff.1 hi).1; simpa using this
      by_cases ei : i = l.length
      · subst ei
        simp at hi
        subst hi
        have ec : ((vs ++ termV 1 4 ⟨#[]⟩ none 0).drop (l.length * 4)).take 4 = termV 1 4 ⟨#[]⟩ none 0 := chunk_app_self rfl hv3
        rw [ec]
        exact tm_leaf (by decide)
      · have hi' : i < l.length := by omega
        rw [List.getElem?_append_left hi'] at hi
        have ec : ((vs ++ termV 1 4 ⟨#[]⟩ none 0).drop (i * 4)).take 4 = chunk 4 i vs := chunk_app_other (by have := mul_le' (w := 4) hi'; omega)
        rw [ec]
        exact ((TmD.tmR _ _ _ _ _ (q3 i t hi)).mono (fun b hb => by have := hT3 b (q1 i b hb); have := k57.1; constructor <;> omega) _ _ _).le (by omega)
    have T7 : TmR h7 (iS (h1.length + 1) h7.length) (f + 2) (.mk k n s (l ++ [.mk 1 4 ⟨#[]⟩ []])) (termV k n s a6 (l.length + 1)) := by
      have := TmR.of (k := k) (n := n) (s := s) R7 (by simp only [maxLen]; omega) (by simp [maxLen]; omega)
      simpa using this
    have B7 : TmB (f + 2) (.mk k n s (l ++ [.mk 1 4 ⟨#[]⟩ []])) := ⟨B1, by simp; omega, fun t ht => by
      rcases List.mem_append.1 ht with ht | ht
      · exact (B3 t ht).le (by omega)
      · rw [List.mem_singleton] at ht
        subst ht
        exact ⟨by decide, by simp, fun _ h => nomatch h⟩⟩
    refine fin (ifF (by decide) (ifF (by decide) (ifF (by decide) (ifT rfl (bS (o5.at0 (i := 3) rfl) (lets fun y ey => ?_)))))) o7 (k57.mono fun b _ hb => .inr hb) (T7.le (by omega)) (B7.le (by omega)) ((x5.keep k6 fun b hb => by have := (ha3 b hb).2; omega).keep k7 fun b hb => by omega)
    subst ey
    exact bs e6 (bS rfl (bs e7 rfl))
  by_cases c4 : z = 4
  · subst c4
    obtain ⟨r1, r2⟩ := row (k' := k) (n' := n) (s' := s) (KB.refl NoB h5) (fun b hb => hb.elim) B1
    have r1' : TmR h5 (iS (h1.length + 1) h5.length) (f + 1) (.mk k n s l) (termV k n s ao l.length) := TmR.of R5 (by simp only [maxLen]; omega) (by simp only [maxLen]; omega)
    obtain ⟨h7, t', k', n', s', a', m', e7, o7, w2, w3, k7⟩ := bend_loop (base := base) (b1 := h.length) (b2 := h1.length) 6 0 h5 _ k n s ao l.length (f + 1) (by omega) o5 r1' hB' (by omega) (by omega) (by omega)
    rw [show ((0 : Nat) : Int) = 0 from rfl] at e7
    exact fin (ifF (by decide) (ifF (by decide) (ifF (by decide) (ifF (by decide) (ifT rfl (bs e7 (ifT rfl (bs rfl (bs rfl rfl))))))))) o7 (k7.mono fun b _ hb => .inr (.inl hb)) w2 w3 (x5.keep k7 fun b hb => by omega)
  · obtain ⟨r1, r2⟩ := row (k' := k) (n' := n) (s' := s) (KB.refl NoB h5) (fun b hb => hb.elim) B1
    exact fin (ifF (by simpa using c0) (ifF (by simpa using c1) (ifF (by simpa using c2) (ifF (by simpa using c3) (ifF (by simpa using c4) rfl))))) o5 (KB.refl _ _) r1 r2 x5
end Go.Proofs.Ytomcfongmahjaaa.Am
