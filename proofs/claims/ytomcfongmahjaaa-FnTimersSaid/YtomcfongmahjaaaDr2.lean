/- What is drawn: terms.
Conditions: none. -/
import Derived.Test.YtomcfongmahjaaaCp2
import Derived.Test.YtomcfongmahjaaaDr
set_option linter.unusedSimpArgs false
set_option linter.unusedVariables false
namespace Go.Proofs.Ytomcfongmahjaaa.Am
open Go Go.RowKit

def Tm.len : Tm → Nat
  | .mk _ _ _ l => l.length
/-- A drawn term. -/
def DrawT (base cb f F : Nat) (deep : Int) : Prop := ∀ h, CurR base cb h → ∃ t cs h', run (Et base) F [.pointer (at0 cb), .int .i64 deep] h = some (.agg cs.toArray, h') ∧ TmD f (iS h.length h'.length) h' t cs ∧ (TmB f t ∧ t.len ≤ 1000) ∧ CurR base cb h' ∧ KB (· = cb) h h'

theorem l1Draw_loop {base cb f b4 b5 : Nat} {deep k : Int} (ih : deep > 0 → DrawT base cb f 52 (deep - 1)) (hdp : deep ≤ 1000) (hcb : cb < b5) (hb5 : base ≤ b5) : ∀ (d : Nat) (h : AH) (ao : Option Addr) (vs : List Value) (T : Fp) (l : List Tm), CurR base cb h → b5 < h.length → Own base 27 h (at0 b5) (termV k 0 ⟨#[]⟩ ao l.length) → Own base 27 h ao vs → vs.length = l.length * 4 → l.length + d ≤ 1000 → Chunks 4 (TmD f) T h l vs → (∀ t ∈ l, TmB f t) → (∀ b, T b → b5 < b ∧ b < h.length) → (∀ b, blk ao b → ¬ T b ∧ b5 < b) →
    ∃ h' ao' vs' T' l', loopL (B52_0 base) [some (.pointer (at0 cb)), some (.int .i64 deep), some (.pointer (at0 b4)), some (.pointer (at0 b5)), some (.int .i64 (d : Int))] h = some (3, [some (.pointer (at0 b4)), some (.pointer (at0 b5))], h') ∧ CurR base cb h' ∧ Own base 27 h' (at0 b5) (termV k 0 ⟨#[]⟩ ao' l'.length) ∧ Own base 27 h' ao' vs' ∧ vs'.length = l'.length * 4 ∧ l'.length ≤ 1000 ∧ Chunks 4 (TmD f) T' h' l' vs' ∧ (∀ t ∈ l', TmB f t) ∧ (∀ b, T' b → b5 < b ∧ b < h'.length) ∧ (∀ b, blk ao' b → ¬ T' b ∧ b5 < b) ∧ KB (fun b => b = cb ∨ b5 ≤ b) h h' := by
  intro d
  induction d with
  | zero =>
    intro h ao vs T l x hlh oo ow hv hl hc hB hT ha
    refine ⟨h, ao, vs, T, l, loop_off (by decide) ?_, x, oo, ow, hv, by omega, hc, hB, hT, ha, KB.refl _ _⟩
    rw [B52_0_eq]
    refine bj (q := ([some (.pointer (at0 cb)), some (.int .i64 deep), some (.pointer (at0 b4)), some (.pointer (at0 b5)), some (.int .i64 ((0 : Nat) : Int)), some (.bool false)], h)) (ifF (by simp) rfl) ?_
    exact bs rfl (bI rfl (bs rfl (bs rfl (bI rfl (bB rfl (ifF (by decide) rfl))))))
  | succ d ihd =>
    intro h ao vs T l x hlh oo ow hv hl hc hB hT ha
    by_cases c : deep > 0
    · obtain ⟨t, cs', h2, e2, m2, tb, x2, k2⟩ := ih c h x
      have n2 := k2.1
      obtain ⟨k', n', s', a', m', rfl⟩ := m2.form
      have oo2 := oo.keep k2 fun b hb hu => by rw [blk_at0] at hb; omega
      have ow2 := ow.keep k2 fun b hb hu => by have := (ha b hb).2; omega
      obtain ⟨a3, h3, e3, o3, k3, b3, n3⟩ := app1 (bytes := 56) ow2 (n := l.length) (sz := 4) (cs := termV k' n' s' a' m') hv rfl (by decide) rfl (by have := x.lt; omega) (by omega) (by omega)
      have hao : ∀ b, blk ao b → b < h.length := fun b hb => (ow.lt hb).2
      have oo3 := oo2.keep k3 fun b hb hk => by have := (ha b hk).2; rw [blk_at0] at hb; omega
      obtain ⟨h4, w4, oo4, k4, l4⟩ := oo3.wr0 (i := 3) (new := [.slice a3 (l.length + 1) (l.length + 1)]) (by simp) (by simp)
      have hset : setAt (termV k 0 ⟨#[]⟩ ao l.length) 3 [.slice a3 (l.length + 1) (l.length + 1)] = termV k 0 ⟨#[]⟩ a3 (l.length + 1) := rfl
      rw [hset] at oo4
      have k34 : KB (fun b => blk ao b ∨ b = b5) h2 h4 := KB.trans k3 k4 (fun _ _ h => .inl h) (fun _ _ h => .inr h)
      have k04 : KB (fun b => b = cb ∨ b5 ≤ b) h h4 := KB.trans k2 k34 (fun _ _ h => .inl h) (fun b _ hb => by
        rcases hb with hb | hb
        · have := (ha b hb).2; omega
        · omega)
      have ch := (((hc.keep (TmD.kp _) k2 fun b hb hu => by have := hT b hb; omega).snoc (vs' := vs ++ termV k' n' s' a' m') (S' := fun b => T b ∨ iS h.length h2.length b) m2 (fun b hb hb' => by have := hT b hb'; omega) (fun b hb => .inl hb) (fun b hb => .inr hb) (fun q hq => chunk_app_other (by have := mul_le' (w := 4) hq; omega)) (chunk_app_self rfl hv)).keep (TmD.kp _) k3 (fun b hb hk => by
          rcases hb with hb | hb
          · exact (ha b hk).1 hb
          · have := hao b hk; omega)).keep (TmD.kp _) k4 (fun b hb hk => by
          rcases hb with hb | hb
          · have := hT b hb; omega
          · omega)
      have hT' : ∀ b, (T b ∨ iS h.length h2.length b) → b5 < b ∧ b < h4.length := fun b hb => by
        rcases hb with hb | hb
        · have := hT b hb; omega
        · omega
      have o4 := o3.keepB k4 fun b hb => by have := b3 b hb; omega
      obtain ⟨h5, a5, vs5, T5, l5, y1, y2⟩ := ihd h4 a3 (vs ++ termV k' n' s' a' m') (fun b => T b ∨ iS h.length h2.length b) (l ++ [t]) (x2.keep k34 fun b hb => by
          have := x.lt
          rcases hb with hb | hb
          · have := (ha b hb).2; omega
          · omega) (by omega) (by simpa using oo4) o4 (by simp; omega) (by simp; omega) ch (fun y hy => by
          rcases List.mem_append.1 hy with hy | hy
          · exact hB y hy
          · rw [List.mem_singleton] at hy; subst hy; exact tb.1) hT' (fun b hb => by
          have := b3 b hb
          subst this
          refine ⟨fun hb => ?_, by omega⟩
          rcases hb with hb | hb
          · have := hT _ hb; omega
          · omega)
      obtain ⟨y2, y3, y4, y5, y6, y7, y8, y9, y10, y11⟩ := y2
      refine ⟨h5, a5, vs5, T5, l5, loop_on ?_ y1, y2, y3, y4, y5, y6, y7, y8, y9, y10, KB.trans k04 y11 (fun _ _ h => h) (fun _ _ h => h)⟩
      rw [B52_0_eq]
      refine bj (q := ([some (.pointer (at0 cb)), some (.int .i64 deep), some (.pointer (at0 b4)), some (.pointer (at0 b5)), some (.int .i64 ((d + 1 : Nat) : Int)), some (.bool true)], h)) (ifT (decide_eq_true (by omega)) (by rw [decide_eq_true c])) ?_
      refine bs rfl (bI rfl (bs rfl (bs rfl (bI rfl (bB rfl (ifT rfl ?_))))))
      refine bS (oo.at0 (i := 3) rfl) ?_
      rw [w64i (n := deep - 1) (by omega) (by omega)]
      refine bs e2 (bs (v := termV k' n' s' a' m') rfl (bI rfl (bI rfl (bT rfl (bS rfl ?_)))))
      rw [gate_pos (by
        intro y hy
        injection hy with hy
        subst hy
        have e := k2.2 b5 hlh (by omega)
        exact ⟨fun j _ => by unfold Am.cell; rw [e], by rw [e]⟩)]
      rw [gate_pos (by
        intro y hy
        injection hy with hy
        subst hy
        show b5 ≠ h2.length
        omega)]
      refine lets fun y2 ey2 => ?_
      subst ey2
      refine bs e3 (bS rfl (bs w4 ?_))
      rw [w64i (by omega) (by omega), show (((d + 1 : Nat) : Int) - 1) = (d : Int) from by omega]
    · refine ⟨h, ao, vs, T, l, loop_off (by decide) ?_, x, oo, ow, hv, by omega, hc, hB, hT, ha, KB.refl _ _⟩
      rw [B52_0_eq]
      refine bj (q := ([some (.pointer (at0 cb)), some (.int .i64 deep), some (.pointer (at0 b4)), some (.pointer (at0 b5)), some (.int .i64 ((d + 1 : Nat) : Int)), some (.bool false)], h)) (ifT (decide_eq_true (by omega)) (by rw [decide_eq_false c])) ?_
      exact bs rfl (bI rfl (bs rfl (bs rfl (bI rfl (bB rfl (ifF (by decide) rfl))))))

theorem strs_size {s : ByteArray} (h : s ∈ ([⟨#[111, 107]⟩, ⟨#[97]⟩, ⟨#[115, 116, 111, 112]⟩, ⟨#[104, 105, 50]⟩, ⟨#[]⟩, ⟨#[120]⟩, ⟨#[0, 255]⟩, ⟨#[104, 101, 108, 108, 111]⟩] : List ByteArray)) : s.size ≤ 5 := by
  have : ∀ s ∈ ([⟨#[111, 107]⟩, ⟨#[97]⟩, ⟨#[115, 116, 111, 112]⟩, ⟨#[104, 105, 50]⟩, ⟨#[]⟩, ⟨#[120]⟩, ⟨#[0, 255]⟩, ⟨#[104, 101, 108, 108, 111]⟩] : List ByteArray), s.size ≤ 5 := by
    simp only [List.forall_mem_cons]
    exact ⟨by decide, by decide, by decide, by decide, by decide, by decide, by decide, by decide, fun _ h => nomatch h⟩
  exact this s h
theorem or3 {β : Type} {a b c : Bool} (g : Bool → Option β) : (if a = true then g a else (if b = true then g b else g c)) = g (a || (b || c)) := by
  cases a <;> cases b <;> rfl
theorem or2 {β : Type} {a b : Bool} (g : Bool → Option β) : (if a = true then g a else g b) = g (a || b) := by
  cases a <;> rfl
/-- A term with nothing below. -/
theorem leafD {f : Nat} {S : Fp} {h : AH} {k n : Int} {s : ByteArray} (hs : s.size ≤ 1048576) : TmD (f + 1) S h (.mk k n s []) (termV k n s none 0) ∧ TmB (f + 1) (.mk k n s []) :=
  ⟨⟨by simp only [maxLen]; omega, by simp [maxLen], none, rfl, RowD.nil⟩, hs, by simp, fun t h => nomatch h⟩

theorem l1Draw_run {base cb : Nat} : ∀ (f : Nat) (deep : Int), deep ≤ (f : Int) → f ≤ 1000 → DrawT base cb (f + 1) 52 deep := by
  intro f
  induction f with
  | zero => exact fun deep hd hf => key 0 deep hd hf (fun hp => by omega)
  | succ f ihf => exact fun deep hd hf => key (f + 1) deep hd hf fun hp => ihf (deep - 1) (by omega) (by omega)
where
  key (f : Nat) (deep : Int) (hd : deep ≤ (f : Int)) (hf : f ≤ 1000) (ih : deep > 0 → DrawT base cb f 52 (deep - 1)) : DrawT base cb (f + 1) 52 deep := by
    intro h x
    have hlt := x.lt
    obtain ⟨o1, k1, q1⟩ := box_own (base := base) (t := 27) (h := h) (cs := termV 0 0 ⟨#[]⟩ none 0) (by omega) rfl
    generalize hh1 : h ++ [some (⟨termV 0 0 ⟨#[]⟩ none 0, 27⟩ : Blk)] = h1 at o1 k1 q1
    obtain ⟨n, h2, e2, z0, z1, z2, x2, k2, l2⟩ := l1Below_run (n := 9) (x.keepN k1) (by omega)
    have z1 := z1 (by omega)
    have o2 := o1.keepB k2 fun b hb => by rw [blk_at0] at hb; omega
    have k02 : KB (· = cb) h h2 := kNB k1 k2
    -- the end of a leaf
    have fin : ∀ (h3 : AH) (kk nn : Int) (s : ByteArray), Own base 27 h3 (at0 h.length) (termV 0 0 ⟨#[]⟩ none 0) → KB (· = cb) h h3 → CurR base cb h3 → s.size ≤ 1048576 → ∃ h4, Am.wr base h3 h.length 0 (termV kk nn s none 0) = some h4 ∧ Own base 27 h4 (at0 h.length) (termV kk nn s none 0) ∧ TmD (f + 1) (iS h.length h4.length) h4 (.mk kk nn s []) (termV kk nn s none 0) ∧ (TmB (f + 1) (.mk kk nn s []) ∧ (Tm.mk kk nn s []).len ≤ 1000) ∧ CurR base cb h4 ∧ KB (· = cb) h h4 := by
      intro h3 kk nn s o3 k3 x3 hs
      obtain ⟨h4, e4, o4, k4, l4⟩ := o3.wr0 (i := 0) (new := termV kk nn s none 0) (by simp) (by simp)
      have hz : setAt (termV 0 0 ⟨#[]⟩ none 0) 0 (termV kk nn s none 0) = termV kk nn s none 0 := rfl
      rw [hz] at o4
      exact ⟨h4, e4, o4, (leafD hs).1, ⟨(leafD (S := iS h.length h4.length) (h := h4) hs).2, by simp [Tm.len]⟩, x3.keep k4 fun b hb => by omega, kCF k3 k4 fun i hi => by omega⟩
    cases hB1 : ((n == (0 : Int)) || ((n == (1 : Int)) || (n == (2 : Int)))) with
    | true =>
      obtain ⟨n10, h10, e10, _, _, _, x10, k10, l10⟩ := l1Below_run (n := 100) x2 (by omega)
      obtain ⟨o12, k12, q12⟩ := box_own (base := base) (t := 3) (h := h10) (cs := iv .i64 [0, 1, -1, 7, 1000000, -1000000, n10]) (by omega) rfl
      generalize hh12 : h10 ++ [some (⟨iv .i64 [0, 1, -1, 7, 1000000, -1000000, n10], 3⟩ : Blk)] = h12 at o12 k12 q12
      obtain ⟨n14, h13, e13, _, x13, k13, l13⟩ := l1Int_run (x10.keepN k12) o12.sl (fun b hb => by rw [blk_at0] at hb; omega) (by simp) (by simp)
      have k013 : KB (· = cb) h h13 := kC (kCN (kC k02 k10) k12) k13
      obtain ⟨h15, e15, o15, m15, b15, x15, k15⟩ := fin h13 1 n14 ⟨#[]⟩ (((o2.keepB k10 fun b hb => by rw [blk_at0] at hb; omega).keepN k12).keepB k13 fun b hb => by rw [blk_at0] at hb; omega) k013 x13 (by decide)
      refine ⟨_, _, h15, r52 (lets fun y ey => ?_), m15, b15, x15, k15⟩
      rw [hh1] at ey
      subst ey
      refine bs e2 (bI rfl ?_)
      refine bj (q := ([some (.pointer (at0 cb)), some (.int .i64 deep), some (.pointer (at0 h.length)), some (.int .i64 n), some (.bool true)], h2)) ?_ ?_
      · have t := or3 (a := n == (0 : Int)) (b := n == (1 : Int)) (c := n == (2 : Int)) (fun b => (some (.inl ([some (.pointer (at0 cb)), some (.int .i64 deep), some (.pointer (at0 h.length)), some (.int .i64 n), some (.bool b)], h2)) : Option (Sum (Slots × AH) (Value × AH))))
        rw [hB1] at t
        exact t
      · refine bs rfl (bI rfl (bs rfl (bI rfl (bB rfl (ifT rfl (bs e10 (bI rfl (lets fun y ey => ?_))))))))
        rw [show h10 ++ [some ⟨[.int .i64 (0 : Int), .int .i64 (1 : Int), .int .i64 (-1 : Int), .int .i64 (7 : Int), .int .i64 (1000000 : Int), .int .i64 (-1000000 : Int), .int .i64 n10], 3⟩] = h12 from hh12] at ey
        subst ey
        exact bs e13 (bI rfl (bs e15 (q4 o15 rfl)))
    | false =>
      cases hB2 : ((n == (3 : Int)) || (n == (4 : Int))) with
      | true =>
        obtain ⟨o26, k26, q26⟩ := box_own (base := base) (t := 9) (h := h2) (cs := ([⟨#[111, 107]⟩, ⟨#[97]⟩, ⟨#[115, 116, 111, 112]⟩, ⟨#[104, 105, 50]⟩] : List ByteArray).map Value.string) (by omega) rfl
        generalize hh26 : h2 ++ [some (⟨([⟨#[111, 107]⟩, ⟨#[97]⟩, ⟨#[115, 116, 111, 112]⟩, ⟨#[104, 105, 50]⟩] : List ByteArray).map Value.string, 9⟩ : Blk)] = h26 at o26 k26 q26
        obtain ⟨s28, h27, e27, hs28, x27, k27, l27⟩ := l1Str_run (x2.keepN k26) o26.sl (fun b hb => by rw [blk_at0] at hb; omega) (by simp) (by simp)
        obtain ⟨h29, e29, o29, m29, b29, x29, k29⟩ := fin h27 2 0 s28 ((o2.keepN k26).keepB k27 fun b hb => by rw [blk_at0] at hb; omega) (kC (kCN k02 k26) k27) x27 (by have := strs_size (List.mem_append_left [⟨#[]⟩, ⟨#[120]⟩, ⟨#[0, 255]⟩, ⟨#[104, 101, 108, 108, 111]⟩] hs28); omega)
        refine ⟨_, _, h29, r52 (lets fun y ey => ?_), m29, b29, x29, k29⟩
        rw [hh1] at ey
        subst ey
        refine bs e2 (bI rfl ?_)
        refine bj (q := ([some (.pointer (at0 cb)), some (.int .i64 deep), some (.pointer (at0 h.length)), some (.int .i64 n), some (.bool false)], h2)) ?_ ?_
        · have t := or3 (a := n == (0 : Int)) (b := n == (1 : Int)) (c := n == (2 : Int)) (fun b => (some (.inl ([some (.pointer (at0 cb)), some (.int .i64 deep), some (.pointer (at0 h.length)), some (.int .i64 n), some (.bool b)], h2)) : Option (Sum (Slots × AH) (Value × AH))))
          rw [hB1] at t
          exact t
        refine bs rfl (bI rfl (bs rfl (bI rfl (bB rfl (ifF (by decide) ?_)))))
        refine bj (q := ([some (.pointer (at0 cb)), some (.int .i64 deep), some (.pointer (at0 h.length)), some (.int .i64 n), some (.bool true)], h2)) ?_ ?_
        · have t := or2 (a := n == (3 : Int)) (b := n == (4 : Int)) (fun b => (some (.inl ([some (.pointer (at0 cb)), some (.int .i64 deep), some (.pointer (at0 h.length)), some (.int .i64 n), some (.bool b)], h2)) : Option (Sum (Slots × AH) (Value × AH))))
          rw [hB2] at t
          exact t
        refine bs rfl (bI rfl (bs rfl (bI rfl (bB rfl (ifT rfl (lets fun y ey => ?_))))))
        rw [show h2 ++ [some ⟨[.string (⟨#[111, 107]⟩ : ByteArray), .string (⟨#[97]⟩ : ByteArray), .string (⟨#[115, 116, 111, 112]⟩ : ByteArray), .string (⟨#[104, 105, 50]⟩ : ByteArray)], 9⟩] = h26 from hh26] at ey
        subst ey
        exact bs e27 (bT rfl (bs e29 (q4 o29 rfl)))
      | false =>
        by_cases c5 : (n == (5 : Int)) = true
        · obtain ⟨n35, h34, e34, _, _, _, x34, k34, l34⟩ := l1Below_run (n := 4) x2 (by omega)
          obtain ⟨h36, e36, o36, m36, b36, x36, k36⟩ := fin h34 3 n35 ⟨#[]⟩ (o2.keepB k34 fun b hb => by rw [blk_at0] at hb; omega) (kC k02 k34) x34 (by decide)
          refine ⟨_, _, h36, r52 (lets fun y ey => ?_), m36, b36, x36, k36⟩
          rw [hh1] at ey
          subst ey
          refine bs e2 (bI rfl ?_)
          refine bj (q := ([some (.pointer (at0 cb)), some (.int .i64 deep), some (.pointer (at0 h.length)), some (.int .i64 n), some (.bool false)], h2)) ?_ ?_
          · have t := or3 (a := n == (0 : Int)) (b := n == (1 : Int)) (c := n == (2 : Int)) (fun b => (some (.inl ([some (.pointer (at0 cb)), some (.int .i64 deep), some (.pointer (at0 h.length)), some (.int .i64 n), some (.bool b)], h2)) : Option (Sum (Slots × AH) (Value × AH))))
            rw [hB1] at t
            exact t
          refine bs rfl (bI rfl (bs rfl (bI rfl (bB rfl (ifF (by decide) ?_)))))
          refine bj (q := ([some (.pointer (at0 cb)), some (.int .i64 deep), some (.pointer (at0 h.length)), some (.int .i64 n), some (.bool false)], h2)) ?_ ?_
          · have t := or2 (a := n == (3 : Int)) (b := n == (4 : Int)) (fun b => (some (.inl ([some (.pointer (at0 cb)), some (.int .i64 deep), some (.pointer (at0 h.length)), some (.int .i64 n), some (.bool b)], h2)) : Option (Sum (Slots × AH) (Value × AH))))
            rw [hB2] at t
            exact t
          refine bs rfl (bI rfl (bs rfl (bI rfl (bB rfl (ifF (by decide) (ifT c5 ?_))))))
          exact bs e34 (bI rfl (bs e36 (q4 o36 rfl)))
        · by_cases c6 : (n == (6 : Int)) = true
          · obtain ⟨o26, k26, q26⟩ := box_own (base := base) (t := 9) (h := h2) (cs := ([⟨#[]⟩, ⟨#[120]⟩, ⟨#[0, 255]⟩, ⟨#[104, 101, 108, 108, 111]⟩] : List ByteArray).map Value.string) (by omega) rfl
            generalize hh26 : h2 ++ [some (⟨([⟨#[]⟩, ⟨#[120]⟩, ⟨#[0, 255]⟩, ⟨#[104, 101, 108, 108, 111]⟩] : List ByteArray).map Value.string, 9⟩ : Blk)] = h26 at o26 k26 q26
            obtain ⟨s28, h27, e27, hs28, x27, k27, l27⟩ := l1Str_run (x2.keepN k26) o26.sl (fun b hb => by rw [blk_at0] at hb; omega) (by simp) (by simp)
            obtain ⟨h29, e29, o29, m29, b29, x29, k29⟩ := fin h27 6 0 s28 ((o2.keepN k26).keepB k27 fun b hb => by rw [blk_at0] at hb; omega) (kC (kCN k02 k26) k27) x27 (by have := strs_size (List.mem_append_right [⟨#[111, 107]⟩, ⟨#[97]⟩, ⟨#[115, 116, 111, 112]⟩, ⟨#[104, 105, 50]⟩] hs28); omega)
            refine ⟨_, _, h29, r52 (lets fun y ey => ?_), m29, b29, x29, k29⟩
            rw [hh1] at ey
            subst ey
            refine bs e2 (bI rfl ?_)
            refine bj (q := ([some (.pointer (at0 cb)), some (.int .i64 deep), some (.pointer (at0 h.length)), some (.int .i64 n), some (.bool false)], h2)) ?_ ?_
            · have t := or3 (a := n == (0 : Int)) (b := n == (1 : Int)) (c := n == (2 : Int)) (fun b => (some (.inl ([some (.pointer (at0 cb)), some (.int .i64 deep), some (.pointer (at0 h.length)), some (.int .i64 n), some (.bool b)], h2)) : Option (Sum (Slots × AH) (Value × AH))))
              rw [hB1] at t
              exact t
            refine bs rfl (bI rfl (bs rfl (bI rfl (bB rfl (ifF (by decide) ?_)))))
            refine bj (q := ([some (.pointer (at0 cb)), some (.int .i64 deep), some (.pointer (at0 h.length)), some (.int .i64 n), some (.bool false)], h2)) ?_ ?_
            · have t := or2 (a := n == (3 : Int)) (b := n == (4 : Int)) (fun b => (some (.inl ([some (.pointer (at0 cb)), some (.int .i64 deep), some (.pointer (at0 h.length)), some (.int .i64 n), some (.bool b)], h2)) : Option (Sum (Slots × AH) (Value × AH))))
              rw [hB2] at t
              exact t
            refine bs rfl (bI rfl (bs rfl (bI rfl (bB rfl (ifF (by decide) (ifF c5 (ifT c6 (lets fun y ey => ?_))))))))
            rw [show h2 ++ [some ⟨[.string (⟨#[]⟩ : ByteArray), .string (⟨#[120]⟩ : ByteArray), .string (⟨#[0, 255]⟩ : ByteArray), .string (⟨#[104, 101, 108, 108, 111]⟩ : ByteArray)], 9⟩] = h26 from hh26] at ey
            subst ey
            exact bs e27 (bT rfl (bs e29 (q4 o29 rfl)))
          · obtain ⟨o49, k49, q49⟩ := box_own (base := base) (t := 3) (h := h2) (cs := iv .i64 [4, 5]) (by omega) rfl
            generalize hh49 : h2 ++ [some (⟨iv .i64 [4, 5], 3⟩ : Blk)] = h49 at o49 k49 q49
            obtain ⟨n51, h50, e50, _, x50, k50, l50⟩ := l1Int_run (x2.keepN k49) o49.sl (fun b hb => by rw [blk_at0] at hb; omega) (by simp) (by simp)
            have o50 := (o2.keepN k49).keepB k50 fun b hb => by rw [blk_at0] at hb; omega
            obtain ⟨o53, k53, q53⟩ := box_own (base := base) (t := 27) (h := h50) (cs := termV n51 0 ⟨#[]⟩ none 0) (by omega) rfl
            generalize hh53 : h50 ++ [some (⟨termV n51 0 ⟨#[]⟩ none 0, 27⟩ : Blk)] = h53 at o53 k53 q53
            obtain ⟨n55, h54, e54, y0, y1, _, x54, k54, l54⟩ := l1Below_run (n := 4) (x50.keepN k53) (by omega)
            have y1 := y1 (by omega)
            have o54 := o53.keepB k54 fun b hb => by rw [blk_at0] at hb; omega
            have k054 : KB (· = cb) h h54 := kC (kCN (kC (kCN k02 k49) k50) k53) k54
            obtain ⟨h56, ao, vs, T, l, e56, x56, oo56, ow56, hv, hl, hc, hB, hT, ha, k56⟩ := l1Draw_loop (base := base) (cb := cb) (f := f) (b4 := h.length) (b5 := h50.length) (k := n51) ih (by omega) (by omega) (by omega) n55.toNat h54 none [] (fun _ => False) [] x54 (by omega) o54 (.inl ⟨rfl, rfl⟩) (by simp) (by simp; omega) Chunks.nil (fun t h => nomatch h) (fun _ h => h.elim) (fun b hb => by obtain ⟨_, e, _⟩ := hb; cases e)
            rw [show ((n55.toNat : Nat) : Int) = n55 from by omega] at e56
            have n56 := k56.1
            have z56 := ((o50.keepN k53).keepB k54 fun b hb => by rw [blk_at0] at hb; omega).keep k56 fun b hb hu => by rw [blk_at0] at hb; omega
            obtain ⟨h63, e63, o63, k63, l63⟩ := z56.wr0 (i := 0) (new := termV n51 0 ⟨#[]⟩ ao l.length) (by simp) (by simp)
            have hz : setAt (termV 0 0 ⟨#[]⟩ none 0) 0 (termV n51 0 ⟨#[]⟩ ao l.length) = termV n51 0 ⟨#[]⟩ ao l.length := rfl
            rw [hz] at o63
            have ow63 := ow56.keepB k63 fun b hb => by have := (ha b hb).2; omega
            have hc63 := hc.keep (TmD.kp _) k63 fun b hb hk => by have := hT b hb; omega
            have k056 : KB (· = cb) h h56 := KB.trans k054 k56 (fun _ _ h => h) (fun i hi hu => by omega)
            refine ⟨.mk n51 0 ⟨#[]⟩ l, _, h63, r52 (lets fun y ey => ?_), ⟨by decide, by simp only [maxLen]; omega, ao, rfl, ⟨vs, T, ow63.sl, hv, .inr fun b hb' => ⟨⟨by have := (ha b hb').2; omega, by have := (ow63.lt hb').2; omega⟩, (ha b hb').1⟩, fun b hb' => by have := hT b hb'; constructor <;> omega, hc63⟩⟩, ⟨⟨by decide, by omega, hB⟩, by simp only [Tm.len]; omega⟩, x56.keep k63 fun b hb => by omega, kCF k056 k63 fun i hi => by omega⟩
            rw [hh1] at ey
            subst ey
            refine bs e2 (bI rfl ?_)
            refine bj (q := ([some (.pointer (at0 cb)), some (.int .i64 deep), some (.pointer (at0 h.length)), some (.int .i64 n), some (.bool false)], h2)) ?_ ?_
            · have t := or3 (a := n == (0 : Int)) (b := n == (1 : Int)) (c := n == (2 : Int)) (fun b => (some (.inl ([some (.pointer (at0 cb)), some (.int .i64 deep), some (.pointer (at0 h.length)), some (.int .i64 n), some (.bool b)], h2)) : Option (Sum (Slots × AH) (Value × AH))))
              rw [hB1] at t
              exact t
            refine bs rfl (bI rfl (bs rfl (bI rfl (bB rfl (ifF (by decide) ?_)))))
            refine bj (q := ([some (.pointer (at0 cb)), some (.int .i64 deep), some (.pointer (at0 h.length)), some (.int .i64 n), some (.bool false)], h2)) ?_ ?_
            · have t := or2 (a := n == (3 : Int)) (b := n == (4 : Int)) (fun b => (some (.inl ([some (.pointer (at0 cb)), some (.int .i64 deep), some (.pointer (at0 h.length)), some (.int .i64 n), some (.bool b)], h2)) : Option (Sum (Slots × AH) (Value × AH))))
              rw [hB2] at t
              exact t
            refine bs rfl (bI rfl (bs rfl (bI rfl (bB rfl (ifF (by decide) (ifF c5 (ifF c6 (lets fun y ey => ?_))))))))
            rw [show h2 ++ [some ⟨[.int .i64 (4 : Int), .int .i64 (5 : Int)], 3⟩] = h49 from hh49] at ey
            subst ey
            have hb50 : base ≤ h50.length := by omega
            refine bs e50 (bI rfl (nw hb50 rfl fun y ey => ?_))
            rw [hh53] at ey
            subst ey
            refine bs e54 (bI rfl (bs e56 (ifT rfl (bs rfl (bs rfl (q4 oo56 (bs e63 (q4 o63 rfl))))))))
end Go.Proofs.Ytomcfongmahjaaa.Am
