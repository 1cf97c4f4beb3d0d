/- The reference's GetCode, and marks of instructions looked at again.
Conditions: none. -/
import Derived.Test.YtnmjhhipbfngkaaGf
set_option linter.unusedSimpArgs false
set_option linter.unusedVariables false
namespace Go.Proofs.Ytnmjhhipbfngkaa.Am
open Go Go.RowKit

theorem specIns_stop {base rb : Nat} {h : AH} {a0 ao : Option Addr} {m on : Nat} {n a : Int} {i : Int} (o : Own base 122 h (at0 rb) (rdV a0 m a true)) : loopL (B29_0 base) [some (.slice a0 m m), some (.pointer (at0 rb)), some (.int .i64 n), some (.slice ao on on), some (.int .i64 i)] h = some (2, [some (.slice a0 m m), some (.pointer (at0 rb)), some (.int .i64 n), some (.slice ao on on)], h) := by
  refine loop_off (by decide) ?_
  rw [B29_0_eq]
  refine bj (q := ([some (.slice a0 m m), some (.pointer (at0 rb)), some (.int .i64 n), some (.slice ao on on), some (.int .i64 i), some (.bool false)], h)) ?_ ?_
  · by_cases c : i < n
    · refine ifT (decide_eq_true c) ?_
      by_cases c2 : i < 201
      · exact ifT (decide_eq_true c2) (bB (o.at0 (i := 2) rfl) rfl)
      · exact ifF (by simpa using c2) rfl
    · exact ifF (by simpa using c) rfl
  · exact bS rfl (bs rfl (bI rfl (bS rfl (bI rfl (bB rfl (ifF (by decide) rfl))))))

theorem specIns_loop {base rb lo : Nat} {zs : List Int} {a0 : Option Addr} {n : Int} {M : Nat} (hz : ∀ z ∈ zs, 0 ≤ z ∧ z ≤ 255) (hl : zs.length ≤ 1048576) (hlo : base ≤ lo) (hrb : rb < lo) (ha0 : ∀ b, blk a0 b → b < rb) (hM : M ≤ 201) (hc : ∀ i : Nat, ((i : Int) < n ∧ (i : Int) < 201) ↔ i < M) : ∀ (d i : Nat) (h : AH) (a : Nat) (acc : List In) (ao : Option Addr), i + d = M → a ≤ zs.length → lo ≤ h.length → Sl h a0 (iv .u8 zs) → TyOk base h a0 5 → Own base 122 h (at0 rb) (rdV a0 zs.length (a : Int) false) → Own base 116 h ao (insR acc) → (∀ b, blk ao b → lo ≤ b) → acc.length = i → (∀ x ∈ acc, x.s.size ≤ 12) →
    ∃ a' bad' out ao' h', loopL (B29_0 base) [some (.slice a0 zs.length zs.length), some (.pointer (at0 rb)), some (.int .i64 n), some (.slice ao acc.length acc.length), some (.int .i64 (i : Int))] h =
      some (2, [some (.slice a0 zs.length zs.length), some (.pointer (at0 rb)), some (.int .i64 n), some (.slice ao' (List.length out) (List.length out))], h') ∧ Own base 122 h' (at0 rb) (rdV a0 zs.length a' bad') ∧ Own base 116 h' ao' (insR out) ∧ (∀ b, blk ao' b → lo ≤ b) ∧ out.length ≤ 201 ∧ (∀ x ∈ out, x.s.size ≤ 12) ∧ KB (fun b => b = rb ∨ lo ≤ b) h h' ∧
      (match pS zs d (a : Int) acc with | some (e, o) => bad' = false ∧ a' = e ∧ out = o | none => bad' = true) := by
  intro d
  induction d with
  | zero =>
    intro i h a acc ao hi hle hlh hs hty wr_ ow hao hacc hsz
    refine ⟨(a : Int), false, acc, ao, h, loop_off (by decide) ?_, wr_, ow, hao, by omega, hsz, KB.refl _ _, rfl, rfl, rfl⟩
    rw [B29_0_eq]
    have hn : ¬ ((i : Int) < n ∧ (i : Int) < 201) := by rw [hc]; omega
    refine bj (q := ([some (.slice a0 zs.length zs.length), some (.pointer (at0 rb)), some (.int .i64 n), some (.slice ao acc.length acc.length), some (.int .i64 (i : Int)), some (.bool false)], h)) ?_ ?_
    · by_cases c : (i : Int) < n
      · exact ifT (decide_eq_true c) (ifF (by simp; omega) rfl)
      · exact ifF (by simpa using c) rfl
    · exact bS rfl (bs rfl (bI rfl (bS rfl (bI rfl (bB rfl (ifF (by decide) rfl))))))
  | succ d ih =>
    intro i h a acc ao hi hle hlh hs hty wr_ ow hao hacc hsz
    have hn : (i : Int) < n ∧ (i : Int) < 201 := by rw [hc]; omega
    obtain ⟨x, a', bad', h9, e9, o9, k9, hx, m9⟩ := l13Ins_run (base := base) hz hl hs hty (fun b hb => by have := ha0 b hb; omega) hle wr_ (by omega)
    have n9 := k9.1
    have ow9 := ow.keep k9 fun b hb hk => by have := hao b hb; omega
    obtain ⟨a6, h6, e6, o6, k6, b6, n6⟩ := Am.app1 (bytes := 56) ow9 (n := acc.length) (sz := 6) (cs := inV x) (insR_len acc) rfl (by decide) rfl (by omega) (by omega) (by omega)
    have eR : insR acc ++ inV x = insR (acc ++ [x]) := by rw [insR_app]; rfl
    rw [eR] at o6
    have o96 := o9.keep k6 fun b hb hk => by rw [blk_at0] at hb; have := hao b hk; omega
    have k06 : KB (fun b => b = rb ∨ lo ≤ b) h h6 := KB.trans k9 k6 (fun _ _ h => .inl h) (fun b _ hb => .inr (hao b hb))
    have body : B29_0 base [some (.slice a0 zs.length zs.length), some (.pointer (at0 rb)), some (.int .i64 n), some (.slice ao acc.length acc.length), some (.int .i64 (i : Int))] h = some (0, [some (.slice a0 zs.length zs.length), some (.pointer (at0 rb)), some (.int .i64 n), some (.slice a6 (acc ++ [x]).length (acc ++ [x]).length), some (.int .i64 ((i + 1 : Nat) : Int))], h6) := by
      rw [B29_0_eq]
      refine bj (q := ([some (.slice a0 zs.length zs.length), some (.pointer (at0 rb)), some (.int .i64 n), some (.slice ao acc.length acc.length), some (.int .i64 (i : Int)), some (.bool true)], h)) (ifT (decide_eq_true hn.1) (ifT (decide_eq_true hn.2) (bB (wr_.at0 (i := 2) rfl) rfl))) ?_
      refine bS rfl (bs rfl (bI rfl (bS rfl (bI rfl (bB rfl (ifT rfl (bs e9 (bs (v := inV x) rfl (bI rfl (bI rfl (bI rfl (bI rfl (bI rfl (bT rfl (lets fun y ey => ?_)))))))))))))))
      subst ey
      refine bs e6 (bS rfl ?_)
      rw [w64i (n := (i : Int) + 1) (by omega) (by omega)]
      simp
    have hsz' : ∀ z ∈ acc ++ [x], z.s.size ≤ 12 := fun z hz' => by
      rcases List.mem_append.1 hz' with h | h
      · exact hsz z h
      · rw [List.mem_singleton] at h; subst h; exact hx
    have hao6 : ∀ b, blk a6 b → lo ≤ b := fun b hb => by have := b6 b hb; omega
    have stop : bad' = true → ∃ a' bad' out ao' h', loopL (B29_0 base) [some (.slice a0 zs.length zs.length), some (.pointer (at0 rb)), some (.int .i64 n), some (.slice ao acc.length acc.length), some (.int .i64 (i : Int))] h =
      some (2, [some (.slice a0 zs.length zs.length), some (.pointer (at0 rb)), some (.int .i64 n), some (.slice ao' (List.length out) (List.length out))], h') ∧ Own base 122 h' (at0 rb) (rdV a0 zs.length a' bad') ∧ Own base 116 h' ao' (insR out) ∧ (∀ b, blk ao' b → lo ≤ b) ∧ out.length ≤ 201 ∧ (∀ x ∈ out, x.s.size ≤ 12) ∧ KB (fun b => b = rb ∨ lo ≤ b) h h' ∧ bad' = true := by
      intro hb
      subst hb
      exact ⟨a', true, acc ++ [x], a6, h6, loop_on body (specIns_stop o96), o96, o6, hao6, by simp; omega, hsz', k06, rfl⟩
    rw [pS]
    cases h6' : sixL zs 6 (a : Int) [] with
    | none =>
      rw [h6'] at m9
      exact stop m9
    | some p =>
      obtain ⟨vs', e1⟩ := p
      rw [h6'] at m9
      simp only [Option.bind_some] at m9 ⊢
      obtain ⟨vs, e2, g1, g2, rfl, g4, g5, g6⟩ := sixL_split hz hle h6'
      by_cases c : (inB (vs'.getD 5 0) 0 12 && !decide (vs'.getD 5 0 > (zs.length : Int) - (e2 : Int))) = true
      · rw [if_pos c] at m9 ⊢
        obtain ⟨rfl, rfl, rfl⟩ := m9
        simp only [Bool.and_eq_true, inB, decide_eq_true_eq, Bool.not_eq_true', decide_eq_false_iff_not] at c
        obtain ⟨k5, hk5⟩ : ∃ k5 : Nat, vs'.getD 5 0 = (k5 : Int) := ⟨(vs'.getD 5 0).toNat, by omega⟩
        rw [hk5] at c o96 ⊢
        rw [show (e2 : Int) + (k5 : Int) = ((e2 + k5 : Nat) : Int) from by omega] at o96 ⊢
        obtain ⟨a3, bad3, out3, ao3, h3, y1, y2, y3, y4, y5, y6, y7, y8⟩ := ih (i + 1) h6 (e2 + k5) (acc ++ [mkIn zs vs' (e2 : Int)]) a6 (by omega) (by omega) (by omega) (hs.keep k06 fun b hb hk => by have := ha0 b hb; omega) (hty.keep k06 fun b hb hk => by have := ha0 b hb; omega) o96 o6 hao6 (by simp; omega) hsz'
        exact ⟨a3, bad3, out3, ao3, h3, loop_on body y1, y2, y3, y4, y5, y6, KB.trans k06 y7 (fun _ _ h => h) (fun _ _ h => h), y8⟩
      · rw [if_neg c] at m9 ⊢
        exact stop m9

theorem specGetCode_run {base : Nat} {h : AH} {zs : List Int} {a0 : Option Addr} (hz : ∀ z ∈ zs, 0 ≤ z ∧ z ≤ 255) (hl : zs.length ≤ 1048576) (hs : Sl h a0 (iv .u8 zs)) (hty : TyOk base h a0 5) (hb : base ≤ h.length) :
    ∃ ao h', run (Et base) 29 [.slice a0 zs.length zs.length] h = some (.tuple #[.slice ao (resS zs).1.length (resS zs).1.length, .bool (resS zs).2], h') ∧ Own base 116 h' ao (insR (resS zs).1) ∧ (∀ b, blk ao b → h.length ≤ b) ∧ KB NoB h h' := by
  have ha0 : ∀ b, blk a0 b → b < h.length := fun b ⟨ad, e, eb⟩ => by have := (hty ad e).1; omega
  obtain ⟨o1, k1, q1⟩ := box_own (base := base) (t := 122) (h := h) (cs := rdV a0 zs.length 0 false) hb rfl
  generalize hh1 : h ++ [some (⟨rdV a0 zs.length 0 false, 122⟩ : Blk)] = h1 at o1 k1 q1
  obtain ⟨h2, e2, o2, k2, l2⟩ := l13Num_run (base := base) hz hl (hs.keepN k1) (by omega) o1
  have rg := numS_rng hz (a := 0) (bad := false) (by omega) (by omega)
  obtain ⟨o4, k4, q4⟩ := box_own (base := base) (t := 116) (h := h2) (cs := []) (by omega) rfl
  generalize hh4 : h2 ++ [some (⟨[], 116⟩ : Blk)] = h4 at o4 k4 q4
  have k04 : KB NoB h h4 := kN (kFresh k1 k2 fun i hi => by omega) k4
  have o24 := o2.keepN k4
  have main : ∀ {a' : Int} {bad' : Bool} {out : List In} {ao' : Option Addr} {h5 : AH}, loopL (B29_0 base) [some (.slice a0 zs.length zs.length), some (.pointer (at0 h.length)), some (.int .i64 (numS zs 0 false).1), some (.slice (at0 h2.length) 0 0), some (.int .i64 (0 : Int))] h4 = some (2, [some (.slice a0 zs.length zs.length), some (.pointer (at0 h.length)), some (.int .i64 (numS zs 0 false).1), some (.slice ao' (List.length out) (List.length out))], h5) →
      Own base 122 h5 (at0 h.length) (rdV a0 zs.length a' bad') → Own base 116 h5 ao' (insR out) → (∀ b, blk ao' b → h.length + 1 ≤ b) → out.length ≤ 201 → (∀ x ∈ out, x.s.size ≤ 12) → KB (fun b => b = h.length ∨ h.length + 1 ≤ b) h4 h5 → resS zs = (if bad' = false ∧ a' = (zs.length : Int) ∧ (numS zs 0 false).1 = (out.length : Int) ∧ codeOk out = true then (out, true) else ([], false)) →
      ∃ ao h', run (Et base) 29 [.slice a0 zs.length zs.length] h = some (.tuple #[.slice ao (resS zs).1.length (resS zs).1.length, .bool (resS zs).2], h') ∧ Own base 116 h' ao (insR (resS zs).1) ∧ (∀ b, blk ao b → h.length ≤ b) ∧ KB NoB h h' := by
    intro a' bad' out ao' h5 el or_ ow f5 h201 hsz k5 hres
    have n5 := k5.1
    have k05 : KB NoB h h5 := kFresh k04 k5 fun i hi => by omega
    obtain ⟨h6, e6, k6⟩ := specCodeOk_run (base := base) (fun x hx => by have := hsz x hx; omega) (by omega) ow.sl (by omega)
    have n6 := k6.1
    have pre : ∀ {r : Value × AH} {hj : AH} {B : Bool}, (((Am.cell h5 h.length (0 + 2)).bind getB).bind fun b11 =>
        (if b11 = true then
        some (Sum.inl ([some (.slice ao' out.length out.length), some (.bool true)], h5))
        else
        ((Am.cell h5 h.length (0 + 1)).bind (getI .i64)).bind fun n12 =>
        (if (n12 != ((zs.length : Nat) : Int)) = true then
        some (.inl ([some (.slice ao' out.length out.length), some (.bool true)], h5))
        else
        (if ((numS zs 0 false).1 != ((out.length : Nat) : Int)) = true then
        some (.inl ([some (.slice ao' out.length out.length), some (.bool true)], h5))
        else
        (run (Et base) 77 [(.slice ao' out.length out.length)] h5).bind fun r13 =>
        ((some r13.1).bind getB).bind fun b14 =>
        some (.inl ([some (.slice ao' out.length out.length), some (.bool (!b14))], r13.2))))) : Option (Sum (Slots × AH) (Value × AH))) = some (.inl ([some (.slice ao' out.length out.length), some (.bool B)], hj)) →
        ((if B = true then
        (some (hj ++ [some ⟨[], 116⟩])).bind fun h17 =>
        some (Value.tuple #[(.slice (some ⟨(List.length hj), 0, none⟩) 0 0), (.bool false)], h17)
        else
        some ((.tuple #[(.slice ao' out.length out.length), (.bool true)]), hj)) = some r) → run (Et base) 29 [.slice a0 zs.length zs.length] h = some r := by
      intro r hj B hx hr
      refine r29 (lets fun y ey => ?_)
      rw [hh1] at ey
      subst ey
      refine bs e2 (bI rfl (lets fun y ey => ?_))
      rw [hh4] at ey
      subst ey
      exact bs el (ifT rfl (bS rfl (bs rfl (bI rfl (bS rfl (bj _ hx (bS rfl (bB rfl hr))))))))
    have bad : ∀ {hj : AH}, KB NoB h hj → ∃ ao h', (some (hj ++ [some ⟨[], 116⟩])).bind (fun h17 => some (Value.tuple #[(.slice (some ⟨(List.length hj), 0, none⟩) 0 0), (.bool false)], h17)) = some (Value.tuple #[.slice ao 0 0, .bool false], h') ∧ Own base 116 h' ao (insR []) ∧ (∀ b, blk ao b → h.length ≤ b) ∧ KB NoB h h' := by
      intro hj kj
      have nj := kj.1
      obtain ⟨o, k, q⟩ := box_own (base := base) (t := 116) (h := hj) (cs := []) (by omega) rfl
      exact ⟨_, _, rfl, o, fun b hb' => by rw [blk_at0] at hb'; omega, kN kj k⟩
    rw [hres]
    by_cases c : bad' = false ∧ a' = (zs.length : Int) ∧ (numS zs 0 false).1 = (out.length : Int) ∧ codeOk out = true
    · rw [if_pos c]
      obtain ⟨rfl, c1, c2, c3⟩ := c
      rw [c3] at e6
      refine ⟨ao', h6, pre (bB (or_.at0 (i := 2) rfl) (ifF (by decide) (bI (or_.at0 (i := 1) rfl) (ifF (by simp [c1]) (ifF (by simp [c2]) (bs e6 (bB rfl rfl))))))) (ifF (by decide) rfl), ow.keepN k6, fun b hb' => by have := f5 b hb'; omega, kN k05 k6⟩
    · rw [if_neg c]
      by_cases d0 : bad' = true
      · subst d0
        obtain ⟨ao, h', y1, y2, y3, y4⟩ := bad k05
        exact ⟨ao, h', pre (bB (or_.at0 (i := 2) rfl) (ifT rfl rfl)) (ifT rfl y1), y2, y3, y4⟩
      have d0' : bad' = false := by simpa using d0
      subst d0'
      by_cases d1 : a' = (zs.length : Int)
      · by_cases d2 : (numS zs 0 false).1 = (out.length : Int)
        · have d3 : codeOk out = false := by
            cases hx : codeOk out with
            | false => rfl
            | true => exact absurd ⟨rfl, d1, d2, hx⟩ c
          rw [d3] at e6
          obtain ⟨ao, h', y1, y2, y3, y4⟩ := bad (kN k05 k6)
          exact ⟨ao, h', pre (bB (or_.at0 (i := 2) rfl) (ifF (by decide) (bI (or_.at0 (i := 1) rfl) (ifF (by simp [d1]) (ifF (by simp [d2]) (bs e6 (bB rfl rfl))))))) (ifT rfl y1), y2, y3, y4⟩
        · obtain ⟨ao, h', y1, y2, y3, y4⟩ := bad k05
          exact ⟨ao, h', pre (bB (or_.at0 (i := 2) rfl) (ifF (by decide) (bI (or_.at0 (i := 1) rfl) (ifF (by simp [d1]) (ifT (by simpa using d2) rfl))))) (ifT rfl y1), y2, y3, y4⟩
      · obtain ⟨ao, h', y1, y2, y3, y4⟩ := bad k05
        exact ⟨ao, h', pre (bB (or_.at0 (i := 2) rfl) (ifF (by decide) (bI (or_.at0 (i := 1) rfl) (ifT (by simpa using d1) rfl)))) (ifT rfl y1), y2, y3, y4⟩
  cases hr : gnL zs 0 4 0 0 with
  | none =>
    have hn := numS_none hr
    rw [hn] at o24
    refine main (specIns_stop (on := 0) (ao := at0 h2.length) o24) o24 (out := []) o4 (fun b hb' => by rw [blk_at0] at hb'; omega) (by simp) (fun x hx => nomatch hx) (KB.refl _ _) ?_
    unfold resS
    rw [hr]
    simp
  | some p =>
    obtain ⟨n, e⟩ := p
    have hn := numS_some hr
    rw [hn] at o24 main
    have hr' : gnL zs ((0 : Nat) : Int) 4 0 0 = some (n, e) := hr
    obtain ⟨e', rfl, g1, g2, g3⟩ := gn_split hz (Nat.zero_le _) hr'
    obtain ⟨a3, bad3, out3, ao3, h3, y1, y2, y3, y4, y5, y6, y7, y8⟩ := specIns_loop (base := base) (rb := h.length) (lo := h.length + 1) (n := n) (M := (min n 201).toNat) hz hl (by omega) (by omega) ha0 (by omega) (fun i => by omega) (min n 201).toNat 0 h4 e' [] (at0 h2.length) (by omega) g2 (by omega) (hs.keepN k04) (hty.keepN k04) o24 o4 (fun b hb' => by rw [blk_at0] at hb'; omega) rfl (fun x hx => nomatch hx)
    refine main y1 y2 y3 y4 y5 y6 y7 ?_
    unfold resS
    rw [hr]
    simp only
    cases hp : pS zs (min n 201).toNat (e' : Int) [] with
    | none =>
      rw [hp] at y8
      simp only at y8
      subst y8
      simp
    | some q =>
      obtain ⟨a, o⟩ := q
      rw [hp] at y8
      obtain ⟨rfl, rfl, rfl⟩ := y8
      simp

/-! held -/
theorem heldInsS_loop {base : Nat} {ys : List In} {a : Option Addr} {k0 : Int} (hk0 : 0 ≤ k0) (hkn : k0 + 6 * (ys.length : Int) ≤ 1000000000) (hm : ∀ j : Nat, j < ys.length → ys[j]? = some (markI (k0 + 6 * (j : Int)))) : ∀ (d i : Nat) (h : AH), i + d = ys.length → Sl h a (insR ys) → base ≤ h.length →
    ∃ h', loopL (B32_0 base) [some (.slice a ys.length ys.length), some (.int .i64 (k0 + 6 * (i : Int))), some (.int .i64 (i : Int))] h = some (2, [some (.int .i64 (k0 + 6 * (ys.length : Int)))], h') ∧ KB NoB h h' := by
  intro d
  induction d with
  | zero =>
    intro i h hi hs hb
    have : i = ys.length := by omega
    subst this
    refine ⟨h, loop_off (by decide) ?_, KB.refl _ _⟩
    rw [B32_0_eq]
    exact ifF (by simp) rfl
  | succ d ih =>
    intro i h hi hs hb
    have hlt : i < ys.length := by omega
    obtain ⟨ad, rfl, g0, g1, g2, g3, g4, g5⟩ := In.get hs hlt
    have hx : ys[i] = markI (k0 + 6 * (i : Int)) := by
      have := hm i hlt
      rw [List.getElem?_eq_getElem hlt] at this
      injection this
    rw [hx] at g0 g1 g2 g3 g4 g5
    generalize hk : k0 + 6 * (i : Int) = k at g0 g1 g2 g3 g4 g5
    obtain ⟨h1, e1, kk1⟩ := markText_run (base := base) (h := h) (k := k + 1 + 1 + 1 + 1 + 1) (by omega)
    have n1 := kk1.1
    obtain ⟨h2, e2, kk2⟩ := ih (i + 1) h1 (by omega) (hs.keepN kk1) (by omega)
    rw [show k0 + 6 * ((i + 1 : Nat) : Int) = k + 6 from by omega] at e2
    refine ⟨h2, loop_on ?_ e2, kN kk1 kk2⟩
    rw [B32_0_eq]
    have hI : (0 : Int) ≤ (i : Int) ∧ (i : Int) < ((ys.length : Nat) : Int) := ⟨by omega, by omega⟩
    refine ifT (decide_eq_true hI.2) (ifT hI (bs rfl ?_))
    simp only [Int.toNat_natCast]
    rw [w64i (n := k + 1) (by omega) (by omega), w64i (n := k + 1 + 1) (by omega) (by omega), w64i (n := k + 1 + 1 + 1) (by omega) (by omega), w64i (n := k + 1 + 1 + 1 + 1) (by omega) (by omega), w64i (n := k + 1 + 1 + 1 + 1 + 1) (by omega) (by omega), w64i (n := k + 1 + 1 + 1 + 1 + 1 + 1) (by omega) (by omega), w64i (n := (i : Int) + 1) (by omega) (by omega)]
    refine bI g0 (ifF (by simp [markI]) (ifT hI (bs rfl (bI g1 (ifF (by simp [markI]) (ifT hI (bs rfl (bI g2 (ifF (by simp [markI]) (ifT hI (bs rfl (bI g3 (ifF (by simp [markI]) (ifT hI (bs rfl (bI g4 (ifF (by simp [markI]) (ifT hI (bs rfl (bT g5 (bs e1 (bT rfl ?_))))))))))))))))))))))
    rw [gate_pos (same_keep kk1 g5)]
    refine ifF (by simp [markI]) ?_
    rw [show k + 1 + 1 + 1 + 1 + 1 + 1 = k + 6 from by omega]
    rfl
theorem heldInsS_run {base : Nat} {h : AH} {ys : List In} {a : Option Addr} {k : Int} (hk0 : 0 ≤ k) (hkn : k + 6 * (ys.length : Int) ≤ 1000000000) (hm : ∀ j : Nat, j < ys.length → ys[j]? = some (markI (k + 6 * (j : Int)))) (hs : Sl h a (insR ys)) (hb : base ≤ h.length) :
    ∃ h', run (Et base) 32 [.slice a ys.length ys.length, .int .i64 k] h = some (.int .i64 (k + 6 * (ys.length : Int)), h') ∧ KB NoB h h' := by
  obtain ⟨h', e, kk⟩ := heldInsS_loop (base := base) hk0 hkn hm ys.length 0 h (by omega) hs hb
  rw [show k + 6 * ((0 : Nat) : Int) = k from by omega, show ((0 : Nat) : Int) = 0 from rfl] at e
  exact ⟨h', r32 (bs e (ifF (show ¬ (2 : Nat) = 1 by decide) (ifT rfl (bI rfl rfl)))), kk⟩
end Go.Proofs.Ytnmjhhipbfngkaa.Am
