/- The program's GetCode.
Conditions: none. -/
import Derived.Test.YtnmjhhipbfngkaaGd
import Derived.Test.YtnmjhhipbfngkaaTy
import Derived.Test.YtnmjhhipbfngkaaGn
set_option linter.unusedSimpArgs false
set_option linter.unusedVariables false
namespace Go.Proofs.Ytnmjhhipbfngkaa.Am
open Go Go.RowKit

theorem set_iv {acc r : List Int} {z v : Int} : setAt (iv .i64 (acc ++ z :: r)) acc.length [.int .i64 v] = iv .i64 (acc ++ v :: r) := by
  unfold setAt iv
  simp [List.map_append, List.drop_append]

theorem sameA_refl {h : AH} {a : Option Addr} {n : Nat} : sameA h h a n := fun _ _ => ⟨fun _ _ => rfl, rfl⟩

theorem getSix_loop {base bb : Nat} {zs : List Int} {a0 : Option Addr} (hz : ∀ z ∈ zs, 0 ≤ z ∧ z ≤ 255) (hl : zs.length ≤ 1048576) (hne : ∀ b, blk a0 b → b ≠ bb) {cnt k : Int} {ao : Option Addr} {on : Nat} : ∀ (d i : Nat) (h : AH) (a : Nat) (acc : List Int), i + d = 6 → acc.length = i → a ≤ zs.length → Sl h a0 (iv .u8 zs) → Own base 127 h (at0 bb) (iv .i64 (acc ++ List.replicate d 0)) →
    ∃ ok' a' arr h', loopL (B31_1 base) [some (.slice a0 zs.length zs.length), some (.int .i64 cnt), some (.int .i64 (a : Int)), some (.bool true), some (.slice ao on on), some (.int .i64 k), some (.pointer (at0 bb)), some (.int .i64 (i : Int))] h =
      some (4, [some (.slice a0 zs.length zs.length), some (.int .i64 cnt), some (.int .i64 a'), some (.bool ok'), some (.slice ao on on), some (.int .i64 k), some (.pointer (at0 bb))], h') ∧ Own base 127 h' (at0 bb) (iv .i64 arr) ∧ KB (· = bb) h h' ∧ h'.length = h.length ∧
      (match sixL zs d (a : Int) acc with | some (vs, e) => ok' = true ∧ arr = vs ∧ a' = e | none => ok' = false) := by
  intro d
  induction d with
  | zero =>
    intro i h a acc hi ha hle hs o
    refine ⟨true, (a : Int), acc, h, loop_off (by decide) ?_, by simpa using o, KB.refl _ _, rfl, rfl, rfl, rfl⟩
    rw [B31_1_eq]
    refine bj (q := ([some (.slice a0 zs.length zs.length), some (.int .i64 cnt), some (.int .i64 (a : Int)), some (.bool true), some (.slice ao on on), some (.int .i64 k), some (.pointer (at0 bb)), some (.int .i64 (i : Int)), some (.bool false)], h)) (ifF (by simp; omega) rfl) ?_
    exact bS rfl (bI rfl (bI rfl (bB rfl (bS rfl (bI rfl (bs rfl (bI rfl (bB rfl (ifF (by decide) rfl)))))))))
  | succ d ih =>
    intro i h a acc hi ha hle hs o
    have hg := implGet_run (base := base) (at_ := (a : Int)) hs hz (by omega) (by omega)
    rw [List.replicate_succ] at o
    have step : ∀ {n e : Int} {b : Bool}, gnV (gnL zs (a : Int) 4 0 0) = .tuple #[.int .i64 n, .int .i64 e, .bool b] → ∃ h1, Own base 127 h1 (at0 bb) (iv .i64 (acc ++ n :: List.replicate d 0)) ∧ KB (· = bb) h h1 ∧ h1.length = h.length ∧
        B31_1 base [some (.slice a0 zs.length zs.length), some (.int .i64 cnt), some (.int .i64 (a : Int)), some (.bool true), some (.slice ao on on), some (.int .i64 k), some (.pointer (at0 bb)), some (.int .i64 (i : Int))] h = some (0, [some (.slice a0 zs.length zs.length), some (.int .i64 cnt), some (.int .i64 e), some (.bool b), some (.slice ao on on), some (.int .i64 k), some (.pointer (at0 bb)), some (.int .i64 ((i + 1 : Nat) : Int))], h1) := by
      intro n e b hv
      rw [hv] at hg
      obtain ⟨h1, e1, o1, k1, l1⟩ := o.wr0 (i := acc.length) (new := [.int .i64 n]) (by simp) (by simp)
      rw [set_iv] at o1
      refine ⟨h1, o1, k1.mono fun b _ hb => by omega, l1, ?_⟩
      rw [B31_1_eq]
      refine bj (q := ([some (.slice a0 zs.length zs.length), some (.int .i64 cnt), some (.int .i64 (a : Int)), some (.bool true), some (.slice ao on on), some (.int .i64 k), some (.pointer (at0 bb)), some (.int .i64 (i : Int)), some (.bool true)], h)) (ifT (decide_eq_true (by omega)) rfl) ?_
      refine bS rfl (bI rfl (bI rfl (bB rfl (bS rfl (bI rfl (bs rfl (bI rfl (bB rfl (ifT rfl ?_)))))))))
      refine bs hg (bs rfl (bI rfl (bI rfl (bB rfl (ifT ⟨by omega, by omega⟩ ?_)))))
      simp only [Int.toNat_natCast, Nat.mul_one, Nat.zero_add]
      rw [← ha]
      refine bs e1 ?_
      rw [w64i (by omega) (by omega)]
      rfl
    rw [sixL]
    cases hr : gnL zs (a : Int) 4 0 0 with
    | none =>
      obtain ⟨h1, o1, k1, l1, e1⟩ := step (by rw [hr]; rfl)
      refine ⟨false, 0, _, h1, loop_on e1 (loop_off (by decide) ?_), o1, k1, l1, rfl⟩
      rw [B31_1_eq]
      refine bj (q := ([some (.slice a0 zs.length zs.length), some (.int .i64 cnt), some (.int .i64 (0 : Int)), some (.bool false), some (.slice ao on on), some (.int .i64 k), some (.pointer (at0 bb)), some (.int .i64 ((i + 1 : Nat) : Int)), some (.bool false)], h1)) ?_ ?_
      · by_cases c : ((i + 1 : Nat) : Int) < 6
        · exact ifT (decide_eq_true c) rfl
        · exact ifF (by simpa using c) rfl
      · exact bS rfl (bI rfl (bI rfl (bB rfl (bS rfl (bI rfl (bs rfl (bI rfl (bB rfl (ifF (by decide) rfl)))))))))
    | some p =>
      obtain ⟨n, e⟩ := p
      obtain ⟨e', rfl, g1, g2, g3⟩ := gn_split hz hle hr
      obtain ⟨h1, o1, k1, l1, e1⟩ := step (by rw [hr]; rfl)
      obtain ⟨ok', a', arr, h2, e2, o2, k2, l2, m2⟩ := ih (i + 1) h1 e' (acc ++ [n]) (by omega) (by simp; omega) g2 (hs.keep k1 fun b hb hk => hne b hb hk) (by simpa using o1)
      exact ⟨ok', a', arr, h2, loop_on e1 e2, o2, KB.trans k1 k2 (fun _ _ h => h) (fun _ _ h => h), by omega, m2⟩

theorem getIns_stop {base : Nat} {h : AH} {a0 ao : Option Addr} {n on : Nat} {cnt a : Int} {k : Int} : loopL (B31_0 base) [some (.slice a0 n n), some (.int .i64 cnt), some (.int .i64 a), some (.bool false), some (.slice ao on on), some (.int .i64 k)] h = some (2, [some (.slice a0 n n), some (.bool false), some (.slice ao on on)], h) := by
  refine loop_off (by decide) ?_
  rw [B31_0_eq]
  refine bj (q := ([some (.slice a0 n n), some (.int .i64 cnt), some (.int .i64 a), some (.bool false), some (.slice ao on on), some (.int .i64 k), some (.bool false)], h)) ?_ ?_
  · by_cases c : k < cnt
    · exact ifT (decide_eq_true c) rfl
    · exact ifF (by simpa using c) rfl
  · exact bS rfl (bI rfl (bI rfl (bB rfl (bS rfl (bI rfl (bB rfl (ifF (by decide) rfl)))))))

theorem getIns_loop {base lo : Nat} {zs : List Int} {a0 : Option Addr} {cnt : Int} {N : Nat} (hz : ∀ z ∈ zs, 0 ≤ z ∧ z ≤ 255) (hl : zs.length ≤ 1048576) (hlo : base ≤ lo) (ha0 : ∀ b, blk a0 b → b < lo) (hN : N ≤ 1000000) (hcnt : ∀ k : Nat, (k : Int) < cnt ↔ k < N) : ∀ (d k : Nat) (h : AH) (a : Nat) (acc : List In) (ao : Option Addr), k + d = N → a ≤ zs.length → lo ≤ h.length → Sl h a0 (iv .u8 zs) → TyOk base h a0 5 → Own base 116 h ao (insR acc) → (∀ b, blk ao b → lo ≤ b) → acc.length ≤ 200 → (∀ x ∈ acc, x.s.size ≤ 1048576) →
    ∃ ok' out ao' h', loopL (B31_0 base) [some (.slice a0 zs.length zs.length), some (.int .i64 cnt), some (.int .i64 (a : Int)), some (.bool true), some (.slice ao acc.length acc.length), some (.int .i64 (k : Int))] h =
      some (2, [some (.slice a0 zs.length zs.length), some (.bool ok'), some (.slice ao' (List.length out) (List.length out))], h') ∧ Own base 116 h' ao' (insR out) ∧ (∀ b, blk ao' b → lo ≤ b) ∧ out.length ≤ 200 ∧ (∀ x ∈ out, x.s.size ≤ 1048576) ∧ KB (fun b => lo ≤ b) h h' ∧
      (match pI zs d (a : Int) acc with | some (_, o) => ok' = true ∧ out = o | none => ok' = false) := by
  intro d
  induction d with
  | zero =>
    intro k h a acc ao hk hle hlh hs hty ow hao h200 hsz
    refine ⟨true, acc, ao, h, loop_off (by decide) ?_, ow, hao, h200, hsz, KB.refl _ _, rfl, rfl⟩
    rw [B31_0_eq]
    have : ¬ ((k : Int) < cnt) := by rw [hcnt]; omega
    refine bj (q := ([some (.slice a0 zs.length zs.length), some (.int .i64 cnt), some (.int .i64 (a : Int)), some (.bool true), some (.slice ao acc.length acc.length), some (.int .i64 (k : Int)), some (.bool false)], h)) (ifF (by simpa using this) rfl) ?_
    exact bS rfl (bI rfl (bI rfl (bB rfl (bS rfl (bI rfl (bB rfl (ifF (by decide) rfl)))))))
  | succ d ih =>
    intro k h a acc ao hk hle hlh hs hty ow hao h200 hsz
    have hlt : (k : Int) < cnt := by rw [hcnt]; omega
    obtain ⟨o10, k10, q10⟩ := box_own (base := base) (t := 127) (h := h) (cs := iv .i64 ([] ++ List.replicate 6 0)) (by omega) rfl
    generalize hh10 : h ++ [some (⟨iv .i64 ([] ++ List.replicate 6 0), 127⟩ : Blk)] = h10 at o10 k10 q10
    obtain ⟨ok', a', arr, h11, e11, o11, k11, l11, m11⟩ := getSix_loop (base := base) (bb := h.length) (cnt := cnt) (k := (k : Int)) (ao := ao) (on := acc.length) hz hl (fun b hb => by have := ha0 b hb; omega) 6 0 h10 a [] (by omega) rfl hle (hs.keepN k10) o10
    rw [show ((0 : Nat) : Int) = 0 from rfl] at e11
    have k011 : KB (fun b => lo ≤ b) h h11 := KB.trans k10 k11 (fun _ _ h => h.elim) (fun b _ hb => by omega)
    have hs11 := hs.keep k011 fun b hb hk => by have := ha0 b hb; omega
    have hty11 := hty.keep k011 fun b hb hk => by have := ha0 b hb; omega
    have ow11 := (ow.keepN k10).keep k11 fun b hb hk => by have := (ow.lt hb).2; omega
    -- what the first part comes to
    have head : ((if ok' = true then
        (if 0 ≤ (5 : Int) ∧ (5 : Int) < (6 : Int) then
        ((Am.cell h11 h.length (0 + 5)).bind (getI .i64)).bind fun n20 =>
        (run (Et base) 67 [(.int .i64 n20), (.int .i64 (0 : Int)), (.int .i64 (IntKind.wrap .i64 (((zs.length : Nat) : Int) - a')))] h11).bind fun r21 =>
        ((some r21.1).bind getB).bind fun b22 =>
        (if b22 = true then
        some (Sum.inl ([some (.slice a0 zs.length zs.length), some (.int .i64 cnt), some (.int .i64 a'), some (.bool (decide (((acc.length : Nat) : Int) < (200 : Int)))), some (.slice ao acc.length acc.length), some (.int .i64 (k : Int)), some (.pointer (at0 h.length))], r21.2))
        else
        some (.inl ([some (.slice a0 zs.length zs.length), some (.int .i64 cnt), some (.int .i64 a'), some (.bool false), some (.slice ao acc.length acc.length), some (.int .i64 (k : Int)), some (.pointer (at0 h.length))], r21.2)))
        else none)
        else
        some (.inl ([some (.slice a0 zs.length zs.length), some (.int .i64 cnt), some (.int .i64 a'), some (.bool false), some (.slice ao acc.length acc.length), some (.int .i64 (k : Int)), some (.pointer (at0 h.length))], h11)) : Option (Sum (Slots × AH) (Sum (Slots × AH) (Nat × Slots × AH))))) = some (.inl ([some (.slice a0 zs.length zs.length), some (.int .i64 cnt), some (.int .i64 a'), some (.bool false), some (.slice ao acc.length acc.length), some (.int .i64 (k : Int)), some (.pointer (at0 h.length))], h11)) →
        B31_0 base [some (.slice a0 zs.length zs.length), some (.int .i64 cnt), some (.int .i64 (a : Int)), some (.bool true), some (.slice ao acc.length acc.length), some (.int .i64 (k : Int))] h = some (0, [some (.slice a0 zs.length zs.length), some (.int .i64 cnt), some (.int .i64 a'), some (.bool false), some (.slice ao acc.length acc.length), some (.int .i64 (IntKind.wrap .i64 ((k : Int) + 1)))], h11) := by
      intro hj
      rw [B31_0_eq]
      refine bj (q := ([some (.slice a0 zs.length zs.length), some (.int .i64 cnt), some (.int .i64 (a : Int)), some (.bool true), some (.slice ao acc.length acc.length), some (.int .i64 (k : Int)), some (.bool true)], h)) (ifT (decide_eq_true hlt) rfl) ?_
      refine bS rfl (bI rfl (bI rfl (bB rfl (bS rfl (bI rfl (bB rfl (ifT rfl ?_)))))))
      refine bj (q := ([some (.slice a0 zs.length zs.length), some (.int .i64 cnt), some (.int .i64 a'), some (.bool false), some (.slice ao acc.length acc.length), some (.int .i64 (k : Int))], h11)) ?_ ?_
      · refine lets fun y ey => ?_
        have ey2 : y = h10 := by rw [ey]; exact hh10
        subst ey2
        refine bs e11 (ifT rfl (bS rfl (bI rfl (bI rfl (bB rfl (bS rfl (bI rfl (bs rfl ?_))))))))
        refine bj (q := ([some (.slice a0 zs.length zs.length), some (.int .i64 cnt), some (.int .i64 a'), some (.bool false), some (.slice ao acc.length acc.length), some (.int .i64 (k : Int)), some (.pointer (at0 h.length))], h11)) hj ?_
        exact bS rfl (bI rfl (bI rfl (bB rfl (bS rfl (bI rfl (bs rfl (ifF (by decide) rfl)))))))
      · exact bS rfl (bI rfl (bI rfl (bB rfl (bS rfl (bI rfl rfl)))))
    rw [pI]
    cases h6 : sixL zs 6 (a : Int) [] with
    | none =>
      rw [h6] at m11
      simp only at m11
      subst m11
      refine ⟨false, acc, ao, h11, loop_on (head (ifF (by decide) rfl)) getIns_stop, ow11, hao, h200, hsz, k011, rfl⟩
    | some p =>
      obtain ⟨vs', e1⟩ := p
      rw [h6] at m11
      obtain ⟨rfl, rfl, rfl⟩ := m11
      obtain ⟨vs, e2, g1, g2, rfl, g4, g5, g6⟩ := sixL_split hz hle h6
      simp only [List.nil_append] at g1
      subst g1
      simp only [Option.bind_some]
      match arr, g2, o11, h6, head with
      | [v0, v1, v2, v3, v4, v5], g2, o11, h6, head =>
        have e5 : [v0, v1, v2, v3, v4, v5].getD 5 0 = v5 := rfl
        rw [e5]
        have hin := in_run (base := base) (h := h11) (x := v5) (a := 0) (b := ((zs.length : Nat) : Int) - (e2 : Int))
        have hw : IntKind.wrap .i64 (((zs.length : Nat) : Int) - (e2 : Int)) = ((zs.length : Nat) : Int) - (e2 : Int) := w64i (by omega) (by omega)
        by_cases c : (inB v5 0 ((zs.length : Int) - (e2 : Int)) && decide ((acc.length : Int) < 200)) = true
        · rw [if_pos c]
          simp only [Bool.and_eq_true, decide_eq_true_eq] at c
          obtain ⟨c1, c2⟩ := c
          have c1' := c1
          simp only [inB, Bool.and_eq_true, decide_eq_true_eq] at c1'
          obtain ⟨k5, rfl⟩ : ∃ k5 : Nat, v5 = (k5 : Int) := ⟨v5.toNat, by omega⟩
          have hle2 : e2 + k5 ≤ zs.length := by omega
          have hm : mkIn zs [v0, v1, v2, v3, v4, (k5 : Int)] (e2 : Int) = ⟨v0, v1, v2, v3, v4, bstr ((zs.drop e2).take k5)⟩ := by
            unfold mkIn
            rw [e5, Int.toNat_natCast, Int.toNat_natCast]
            rfl
          rw [hm]
          generalize hx : (⟨v0, v1, v2, v3, v4, bstr ((zs.drop e2).take k5)⟩ : In) = x
          have hxs : x.s.size ≤ 1048576 := by rw [← hx]; simp only [bstr_size, List.length_take, List.length_drop]; omega
          obtain ⟨a6, h6', e6, o6, k6, b6, n6⟩ := Am.app1 (bytes := 56) ow11 (n := acc.length) (sz := 6) (cs := inV x) (insR_len acc) rfl (by decide) rfl (by omega) (by omega) (by omega)
          have o11' := o11.keep k6 fun b hb hk => by rw [blk_at0] at hb; have := (ow.lt hk).2; omega
          have k06 : KB (fun b => lo ≤ b) h h6' := KB.trans k011 k6 (fun _ _ h => h) (fun b _ hb => hao b hb)
          have eR : insR acc ++ inV x = insR (acc ++ [x]) := by rw [insR_app]; rfl
          rw [eR] at o6
          obtain ⟨ok3, out3, a3, h3, y1, y2, y3, y4, y5, y6, y7⟩ := ih (k + 1) h6' (e2 + k5) (acc ++ [x]) a6 (by omega) hle2 (by omega) (hs.keep k06 fun b hb hk => by have := ha0 b hb; omega) (hty.keep k06 fun b hb hk => by have := ha0 b hb; omega) o6 (fun b hb => by have := b6 b hb; omega) (by simp; omega) (fun z hz' => by
            rcases List.mem_append.1 hz' with h | h
            · exact hsz z h
            · rw [List.mem_singleton] at h; subst h; exact hxs)
          rw [show ((e2 + k5 : Nat) : Int) = (e2 : Int) + (k5 : Int) from by omega] at y1 y7
          refine ⟨ok3, out3, a3, h3, loop_on ?_ y1, y2, y3, y4, y5, KB.trans k06 y6 (fun _ _ h => h) (fun _ _ h => h), y7⟩
          rw [B31_0_eq]
          refine bj (q := ([some (.slice a0 zs.length zs.length), some (.int .i64 cnt), some (.int .i64 (a : Int)), some (.bool true), some (.slice ao acc.length acc.length), some (.int .i64 (k : Int)), some (.bool true)], h)) (ifT (decide_eq_true hlt) rfl) ?_
          refine bS rfl (bI rfl (bI rfl (bB rfl (bS rfl (bI rfl (bB rfl (ifT rfl ?_)))))))
          refine bj (q := ([some (.slice a0 zs.length zs.length), some (.int .i64 cnt), some (.int .i64 ((e2 : Int) + (k5 : Int))), some (.bool true), some (.slice a6 (acc ++ [x]).length (acc ++ [x]).length), some (.int .i64 (k : Int))], h6')) ?_ ?_
          · refine lets fun y ey => ?_
            have ey2 : y = h10 := by rw [ey]; exact hh10
            subst ey2
            refine bs e11 (ifT rfl (bS rfl (bI rfl (bI rfl (bB rfl (bS rfl (bI rfl (bs rfl ?_))))))))
            refine bj (q := ([some (.slice a0 zs.length zs.length), some (.int .i64 cnt), some (.int .i64 (e2 : Int)), some (.bool true), some (.slice ao acc.length acc.length), some (.int .i64 (k : Int)), some (.pointer (at0 h.length))], h11)) ?_ ?_
            · refine ifT rfl (ifT ⟨by decide, by decide⟩ (bI (o11.at0 (i := 5) rfl) ?_))
              rw [hw]
              refine bs hin (bB rfl (ifT c1 ?_))
              rw [decide_eq_true c2]
            · refine bS rfl (bI rfl (bI rfl (bB rfl (bS rfl (bI rfl (bs rfl (ifT rfl ?_)))))))
              refine ifT ⟨by decide, by decide⟩ (bI (o11.at0 (i := 0) rfl) (ifT ⟨by decide, by decide⟩ (bI (o11.at0 (i := 1) rfl) (ifT ⟨by decide, by decide⟩ (bI (o11.at0 (i := 2) rfl) (ifT ⟨by decide, by decide⟩ (bI (o11.at0 (i := 3) rfl) (ifT ⟨by decide, by decide⟩ (bI (o11.at0 (i := 4) rfl) (ifT ⟨by decide, by decide⟩ (bI (o11.at0 (i := 5) rfl) ?_)))))))))))
              rw [w64i (n := (e2 : Int) + (k5 : Int)) (by omega) (by omega)]
              refine ifT ⟨by omega, by omega, by omega, hty11.ok _⟩ ?_
              rw [show Int.toNat ((e2 : Int) + (k5 : Int)) - Int.toNat (e2 : Int) = k5 from by omega, Int.toNat_natCast]
              refine bs (part_iv hs11 hle2) ?_
              rw [gate_pos sameA_refl, gate_pos sameA_refl, gate_pos sameA_refl, gate_pos sameA_refl, gate_pos sameA_refl]
              refine lets fun y ey => ?_
              subst ey
              have e6' : Am.app base (h11 ++ [some ⟨[.int .i64 v0, .int .i64 v1, .int .i64 v2, .int .i64 v3, .int .i64 v4, .string (bstr ((zs.drop e2).take k5))], 116⟩]) 116 6 56 ao acc.length (rawAt (h11 ++ [some ⟨[.int .i64 v0, .int .i64 v1, .int .i64 v2, .int .i64 v3, .int .i64 v4, .string (bstr ((zs.drop e2).take k5))], 116⟩]) (some ⟨h11.length, 0, none⟩) (1 * 6)) 1 = some (.slice a6 (acc.length + 1) (acc.length + 1), h6') := by
                rw [← e6, ← hx]
              refine bs e6' (bS rfl (ifT ⟨by decide, by decide⟩ (bI (o11'.at0 (i := 5) rfl) ?_)))
              rw [w64i (n := (e2 : Int) + (k5 : Int)) (by omega) (by omega)]
              simp
          · refine bS rfl (bI rfl (bI rfl (bB rfl (bS rfl (bI rfl ?_)))))
            rw [w64i (n := (k : Int) + 1) (by omega) (by omega)]
            rfl
        · rw [if_neg c]
          refine ⟨false, acc, ao, h11, loop_on (head (ifT rfl (ifT ⟨by decide, by decide⟩ (bI (o11.at0 (i := 5) rfl) ?_)))) getIns_stop, ow11, hao, h200, hsz, k011, rfl⟩
          rw [hw]
          refine bs hin (bB rfl ?_)
          cases c1 : inB v5 0 ((zs.length : Int) - (e2 : Int)) with
          | false => exact ifF (by decide) rfl
          | true =>
            rw [c1, Bool.true_and] at c
            refine ifT rfl ?_
            rw [Bool.eq_false_iff.2 c]

theorem implGetCode_run {base : Nat} {h : AH} {zs : List Int} {a0 : Option Addr} (hz : ∀ z ∈ zs, 0 ≤ z ∧ z ≤ 255) (hl : zs.length ≤ 1048576) (hs : Sl h a0 (iv .u8 zs)) (hty : TyOk base h a0 5) (hb : base ≤ h.length) :
    ∃ ao h', run (Et base) 31 [.slice a0 zs.length zs.length] h = some (.tuple #[.slice ao (resI zs).1.length (resI zs).1.length, .bool (resI zs).2], h') ∧ Own base 116 h' ao (insR (resI zs).1) ∧ (∀ b, blk ao b → h.length ≤ b) ∧ (resI zs).1.length ≤ 200 ∧ KB NoB h h' := by
  have hg := implGet_run (base := base) (at_ := 0) hs hz (by omega) (by omega)
  have ha0 : ∀ b, blk a0 b → b < h.length := fun b ⟨ad, e, eb⟩ => by have := (hty ad e).1; omega
  have main : ∀ {n e : Int} {b : Bool} {ok' : Bool} {out : List In} {a1 : Option Addr} {h1 : AH}, gnV (gnL zs 0 4 0 0) = .tuple #[.int .i64 n, .int .i64 e, .bool b] →
      loopL (B31_0 base) [some (.slice a0 zs.length zs.length), some (.int .i64 n), some (.int .i64 e), some (.bool b), some (.slice none 0 0), some (.int .i64 (0 : Int))] h = some (2, [some (.slice a0 zs.length zs.length), some (.bool ok'), some (.slice a1 (List.length out) (List.length out))], h1) →
      Own base 116 h1 a1 (insR out) → (∀ b, blk a1 b → h.length ≤ b) → out.length ≤ 200 → (∀ x ∈ out, x.s.size ≤ 1048576) → KB (fun b => h.length ≤ b) h h1 → resI zs = (if ok' = true ∧ pcB out ≠ [] ∧ pcB out = zs then (out, true) else ([], false)) →
      ∃ ao h', run (Et base) 31 [.slice a0 zs.length zs.length] h = some (.tuple #[.slice ao (resI zs).1.length (resI zs).1.length, .bool (resI zs).2], h') ∧ Own base 116 h' ao (insR (resI zs).1) ∧ (∀ b, blk ao b → h.length ≤ b) ∧ (resI zs).1.length ≤ 200 ∧ KB NoB h h' := by
    intro n e b ok' out a1 h1 hv el ow f1 h200 hsz k1 hres
    rw [hv] at hg
    have n1 := k1.1
    have k1' : KB NoB h h1 := k1.mono fun i hi hb => by omega
    obtain ⟨a2, h2, e2, o2, f2, k2⟩ := implPutCode_run (base := base) (fun x hx => by have := hsz x hx; omega) (by omega) ow.sl (by omega)
    have hs2 := (hs.keepN k1').keepN k2
    have hpb : ∀ x ∈ pcB out, 0 ≤ x ∧ x ≤ 255 := by
      intro x hx
      exact pcB_bytes x hx
    rw [hres]
    by_cases c : ok' = true ∧ pcB out ≠ [] ∧ pcB out = zs
    · rw [if_pos c]
      obtain ⟨rfl, c2, c3⟩ := c
      refine ⟨a1, h2, r31 (bs hg (bs rfl (bI rfl (bI rfl (bB rfl (bs el (ifT rfl (bS rfl (bB rfl (bS rfl (bs e2 (bS rfl ?_)))))))))))), ow.keepN k2, f1, h200, kN k1' k2⟩
      refine bj (q := ([some (.slice a1 out.length out.length), some (.bool false)], h2)) ?_ (bS rfl (bB rfl (ifF (by decide) rfl)))
      refine ifF (by decide) (ifF ?_ (bs (raw_iv o2.sl) (bs (raw_iv hs2) ?_)))
      · have : (pcB out).length ≠ 0 := fun h => c2 (List.eq_nil_of_length_eq_zero h)
        simp
        omega
      · rw [c3]; simp
    · rw [if_neg c]
      refine ⟨none, h2, r31 (bs hg (bs rfl (bI rfl (bI rfl (bB rfl (bs el (ifT rfl (bS rfl (bB rfl (bS rfl (bs e2 (bS rfl ?_)))))))))))), .inl ⟨rfl, rfl⟩, fun b hb => (by obtain ⟨_, e, _⟩ := hb; cases e), by simp, kN k1' k2⟩
      refine bj (q := ([some (.slice a1 out.length out.length), some (.bool true)], h2)) ?_ (bS rfl (bB rfl (ifT rfl rfl)))
      cases ok' with
      | false => exact ifT rfl rfl
      | true =>
        refine ifF (by decide) ?_
        by_cases c2 : (pcB out).length = 0
        · exact ifT (by simp [c2]) rfl
        · refine ifF (by simp only [beq_iff_eq]; omega) (bs (raw_iv o2.sl) (bs (raw_iv hs2) ?_))
          rw [bstr_inj hpb hz]
          have : pcB out ≠ zs := fun h => c ⟨rfl, fun e => c2 (by rw [e]; rfl), h⟩
          rw [decide_eq_false this]
          rfl
  cases hr : gnL zs 0 4 0 0 with
  | none =>
    refine main (n := 0) (e := 0) (b := false) (ok' := false) (out := []) (a1 := none) (h1 := h) (by rw [hr]; rfl) getIns_stop (.inl ⟨rfl, rfl⟩) (fun b hb => (by obtain ⟨_, e, _⟩ := hb; cases e)) (by simp) (fun x hx => nomatch hx) (KB.refl _ _) ?_
    unfold resI
    rw [hr]
    simp
  | some p =>
    obtain ⟨n, e⟩ := p
    have hr' : gnL zs ((0 : Nat) : Int) 4 0 0 = some (n, e) := hr
    obtain ⟨e', rfl, g1, g2, g3⟩ := gn_split hz (Nat.zero_le _) hr'
    have hn : n ≤ 1000000 := gn_le hr
    obtain ⟨ok', out, a1, h1, y1, y2, y3, y4, y5, y6, y7⟩ := getIns_loop (base := base) (lo := h.length) (cnt := n) (N := n.toNat) hz hl hb ha0 (by omega) (fun k => by omega) n.toNat 0 h e' [] none (by omega) g2 (Nat.le_refl _) hs hty (.inl ⟨rfl, rfl⟩) (fun b hb => (by obtain ⟨_, e, _⟩ := hb; cases e)) (by simp) (fun x hx => nomatch hx)
    refine main (b := true) (by rw [hr]; rfl) y1 y2 y3 y4 y5 y6 ?_
    unfold resI
    rw [hr]
    simp only
    cases hp : pI zs n.toNat (e' : Int) [] with
    | none =>
      rw [hp] at y7
      simp only at y7
      subst y7
      simp
    | some q =>
      obtain ⟨a, o⟩ := q
      rw [hp] at y7
      obtain ⟨rfl, rfl⟩ := y7
      simp
end Go.Proofs.Ytnmjhhipbfngkaa.Am
