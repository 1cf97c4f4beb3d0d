/- Texts cut at a byte, and numbers in them.
Conditions: none. -/
import Derived.Test.YtnmjhhipbfngkaaGc
import Derived.Test.YtnmjhhipbfngkaaTy
set_option linter.unusedSimpArgs false
set_option linter.unusedVariables false
namespace Go.Proofs.Ytnmjhhipbfngkaa.Am
open Go Go.RowKit

theorem sb_getD (s : ByteArray) (i : Nat) : (((s.data.toList.getD i 0).toNat : Nat) : Int) = (sb s).getD i 0 := by
  unfold sb
  simp only [List.getD, List.getElem?_map]
  cases s.data.toList[i]? <;> rfl
theorem sb_bytes (s : ByteArray) : ∀ x ∈ sb s, 0 ≤ x ∧ x ≤ 255 := by
  intro x hx
  simp only [sb, List.mem_map] at hx
  obtain ⟨b, _, rfl⟩ := hx
  have := b.toNat_lt
  omega
theorem extract_sb (s : ByteArray) (i j : Nat) : s.extract i j = bstr (((sb s).drop i).take (j - i)) := by
  apply ByteArray.ext
  apply Array.toList_inj.1
  rw [bstr_data, ByteArray.data_extract, Array.toList_extract]
  unfold sb
  rw [← List.map_drop, ← List.map_take, List.map_map]
  conv => lhs; rw [← List.map_id (List.extract _ _ _)]
  simp only [List.extract_eq_take_drop]
  apply List.map_congr_left
  intro x _
  simp

abbrev strsV (ws : List (List Int)) : List Value := ws.map fun w => Value.string (bstr w)
def splitF (zs : List Int) (c : Int) : Nat → Nat → Nat → List (List Int) → List (List Int)
  | 0, _, _, out => out
  | d + 1, i, from_, out => if (i == zs.length || zs.getD i 0 == c) = true then splitF zs c d (i + 1) (i + 1) (out ++ [(zs.drop from_).take (i - from_)]) else splitF zs c d (i + 1) from_ out
def splitL (zs : List Int) (c : Int) : List (List Int) := splitF zs c (zs.length + 1) 0 0 []
theorem splitF_len (zs : List Int) (c : Int) : ∀ (d i f : Nat) (out : List (List Int)), (splitF zs c d i f out).length ≤ out.length + d
  | 0, _, _, out => Nat.le_refl _
  | d + 1, i, f, out => by
    rw [splitF]
    split
    · have := splitF_len zs c d (i + 1) (i + 1) (out ++ [(zs.drop f).take (i - f)])
      simp at this
      omega
    · have := splitF_len zs c d (i + 1) f out
      omega
theorem splitF_pos (zs : List Int) (c : Int) : ∀ (d i f : Nat) (out : List (List Int)), i + d = zs.length + 1 → 0 < d ∨ 0 < out.length → 0 < (splitF zs c d i f out).length
  | 0, _, _, out, hi, h => by rcases h with h | h; exact absurd h (Nat.lt_irrefl 0); exact h
  | d + 1, i, f, out, hi, h => by
    rw [splitF]
    split
    · exact splitF_pos zs c d (i + 1) _ _ (by omega) (.inr (by simp))
    · rename_i hc
      refine splitF_pos zs c d (i + 1) _ _ (by omega) (.inl ?_)
      rcases Nat.eq_zero_or_pos d with h0 | h0
      · exfalso
        apply hc
        have : i = zs.length := by omega
        subst this
        simp
      · exact h0
theorem splitF_bytes {zs : List Int} (hz : ∀ x ∈ zs, 0 ≤ x ∧ x ≤ 255) (c : Int) : ∀ (d i f : Nat) (out : List (List Int)), (∀ w ∈ out, ∀ x ∈ w, 0 ≤ x ∧ x ≤ 255) → ∀ w ∈ splitF zs c d i f out, ∀ x ∈ w, 0 ≤ x ∧ x ≤ 255
  | 0, _, _, out, h => h
  | d + 1, i, f, out, h => by
    rw [splitF]
    split
    · refine splitF_bytes hz c d _ _ _ fun w hw => ?_
      rcases List.mem_append.1 hw with hw | hw
      · exact h w hw
      · rw [List.mem_singleton] at hw
        subst hw
        exact fun x hx => hz x (List.mem_of_mem_drop (List.mem_of_mem_take hx))
    · exact splitF_bytes hz c d _ _ _ h
theorem splitF_short {zs : List Int} (c : Int) : ∀ (d i f : Nat) (out : List (List Int)), (∀ w ∈ out, w.length ≤ zs.length) → ∀ w ∈ splitF zs c d i f out, w.length ≤ zs.length
  | 0, _, _, out, h => h
  | d + 1, i, f, out, h => by
    rw [splitF]
    split
    · refine splitF_short c d _ _ _ fun w hw => ?_
      rcases List.mem_append.1 hw with hw | hw
      · exact h w hw
      · rw [List.mem_singleton] at hw
        subst hw
        simp
        omega
    · exact splitF_short c d _ _ _ h
theorem split_loop {base lo : Nat} {s : ByteArray} {c : Int} (hs : s.size ≤ 1048576) (hlo : base ≤ lo) : ∀ (d i f : Nat) (h : AH) (ao : Option Addr) (out : List (List Int)), i + d = (sb s).length + 1 → f ≤ i → out.length ≤ i → Own base 9 h ao (strsV out) → (∀ b, blk ao b → lo ≤ b) → lo ≤ h.length →
    ∃ h' ao', loopL (B148_0 base) [some (.string s), some (.int .u8 c), some (.slice ao out.length out.length), some (.int .i64 (f : Int)), some (.int .i64 (i : Int))] h = some (2, [some (.slice ao' (splitF (sb s) c d i f out).length (splitF (sb s) c d i f out).length)], h') ∧ Own base 9 h' ao' (strsV (splitF (sb s) c d i f out)) ∧ (∀ b, blk ao' b → lo ≤ b) ∧ KB (fun b => lo ≤ b) h h' := by
  have hl := sb_len s
  intro d
  induction d with
  | zero =>
    intro i f h ao out hi hf ho ow hao hlh
    refine ⟨h, ao, loop_off (by decide) ?_, ow, hao, KB.refl _ _⟩
    rw [B148_0_eq]
    exact ifF (by simp; omega) rfl
  | succ d ih =>
    intro i f h ao out hi hf ho ow hao hlh
    have hle : (i : Int) ≤ (s.size : Int) := by omega
    have hj : ((if ((i : Int) == (s.size : Int)) = true then
        some (Sum.inl ([some (.string s), some (.int .u8 c), some (.slice ao out.length out.length), some (.int .i64 (f : Int)), some (.int .i64 (i : Int)), some (.bool true)], h))
        else
        (if 0 ≤ (i : Int) ∧ (i : Int) < (s.size : Int) then
        some (.inl ([some (.string s), some (.int .u8 c), some (.slice ao out.length out.length), some (.int .i64 (f : Int)), some (.int .i64 (i : Int)), some (.bool (((s.data.toList.getD (Int.toNat (i : Int)) 0).toNat : Int) == c))], h))
        else none)) : Option (Sum (Slots × AH) (Sum (Slots × AH) (Nat × Slots × AH)))) = some (.inl ([some (.string s), some (.int .u8 c), some (.slice ao out.length out.length), some (.int .i64 (f : Int)), some (.int .i64 (i : Int)), some (.bool (i == (sb s).length || (sb s).getD i 0 == c))], h)) := by
      by_cases e : i = (sb s).length
      · refine ifT (by simp; omega) ?_
        have : (i == (sb s).length) = true := by simpa using e
        rw [this]
        rfl
      · refine ifF (by simp; omega) (ifT ⟨by omega, by omega⟩ ?_)
        have : (i == (sb s).length) = false := by simpa using e
        rw [this, Int.toNat_natCast, sb_getD]
        rfl
    rw [splitF]
    by_cases e : (i == (sb s).length || (sb s).getD i 0 == c) = true
    · rw [if_pos e]
      rw [e] at hj
      obtain ⟨a6, h6, e6, o6, k6, b6, n6⟩ := Am.app1 (bytes := 16) ow (n := out.length) (sz := 1) (cs := [.string (bstr (((sb s).drop f).take (i - f)))]) (by simp) rfl (by decide) rfl (by omega) (by omega) (by omega)
      have eV : strsV out ++ [Value.string (bstr (((sb s).drop f).take (i - f)))] = strsV (out ++ [((sb s).drop f).take (i - f)]) := by simp [strsV]
      rw [eV] at o6
      obtain ⟨h7, a7, e7, o7, f7, k7⟩ := ih (i + 1) (i + 1) h6 a6 (out ++ [((sb s).drop f).take (i - f)]) (by omega) (Nat.le_refl _) (by simp; omega) o6 (fun b hb => by have := b6 b hb; omega) (by omega)
      refine ⟨h7, a7, loop_on ?_ e7, o7, f7, KB.trans k6 k7 (fun b _ hb => hao b hb) (fun _ _ h => h)⟩
      rw [B148_0_eq]
      refine ifT (decide_eq_true hle) ?_
      refine bj (q := ([some (.string s), some (.int .u8 c), some (.slice a6 (out ++ [((sb s).drop f).take (i - f)]).length (out ++ [((sb s).drop f).take (i - f)]).length), some (.int .i64 ((i + 1 : Nat) : Int)), some (.int .i64 (i : Int))], h6)) ?_ ?_
      · refine bj _ hj (bT rfl (bI rfl (bS rfl (bI rfl (bI rfl (bB rfl (ifT rfl (ifT ⟨by omega, by omega, hle⟩ ?_))))))))
        rw [Int.toNat_natCast, Int.toNat_natCast, extract_sb]
        refine lets fun y ey => ?_
        subst ey
        refine bs e6 (bS rfl ?_)
        rw [w64i (n := (i : Int) + 1) (by omega) (by omega)]
        simp
      · refine bT rfl (bI rfl (bS rfl (bI rfl (bI rfl ?_))))
        rw [w64i (n := (i : Int) + 1) (by omega) (by omega)]
        rfl
    · rw [if_neg e]
      have e' : (i == (sb s).length || (sb s).getD i 0 == c) = false := by simpa using e
      rw [e'] at hj
      obtain ⟨h7, a7, e7, o7, f7, k7⟩ := ih (i + 1) f h ao out (by omega) (by omega) (by omega) ow hao hlh
      refine ⟨h7, a7, loop_on ?_ e7, o7, f7, k7⟩
      rw [B148_0_eq]
      refine ifT (decide_eq_true hle) ?_
      refine bj (q := ([some (.string s), some (.int .u8 c), some (.slice ao out.length out.length), some (.int .i64 (f : Int)), some (.int .i64 (i : Int))], h)) ?_ ?_
      · exact bj _ hj (bT rfl (bI rfl (bS rfl (bI rfl (bI rfl (bB rfl (ifF (by decide) rfl)))))))
      · refine bT rfl (bI rfl (bS rfl (bI rfl (bI rfl ?_))))
        rw [w64i (n := (i : Int) + 1) (by omega) (by omega)]
        rfl
theorem l8Split_run {base : Nat} {h : AH} {s : ByteArray} {c : Int} (hs : s.size ≤ 1048576) (hb : base ≤ h.length) :
    ∃ ao h', run (Et base) 148 [.string s, .int .u8 c] h = some (.slice ao (splitL (sb s) c).length (splitL (sb s) c).length, h') ∧ Own base 9 h' ao (strsV (splitL (sb s) c)) ∧ (∀ b, blk ao b → h.length ≤ b) ∧ KB NoB h h' := by
  obtain ⟨o1, k1, q1⟩ := box_own (base := base) (t := 9) (h := h) (cs := []) hb rfl
  generalize hh1 : h ++ [some (⟨[], 9⟩ : Blk)] = h1 at o1 k1 q1
  obtain ⟨h2, a2, e2, o2, f2, k2⟩ := split_loop (base := base) (lo := h.length) (c := c) hs hb ((sb s).length + 1) 0 0 h1 (at0 h.length) [] (by omega) (Nat.le_refl _) (Nat.zero_le _) o1 (fun b hb' => by rw [blk_at0] at hb'; omega) (by omega)
  rw [show ((0 : Nat) : Int) = 0 from rfl] at e2
  refine ⟨a2, h2, r148 (lets fun y ey => ?_), o2, f2, kFresh k1 k2 fun i hi => hi⟩
  rw [hh1] at ey
  subst ey
  exact bs e2 (ifT rfl (bS rfl rfl))

/-! ### Numbers -/
def numF (zs : List Int) : Nat → Nat → Int → Int
  | 0, _, n => n
  | d + 1, i, n => if inB (zs.getD i 0) 48 57 = true then numF zs d (i + 1) (n * 10 + (zs.getD i 0 - 48)) else -1
def numL (zs : List Int) : Int := if (!inB (zs.length : Int) 1 7 || (decide ((zs.length : Int) > 1) && zs.getD 0 0 == 48)) = true then -1 else numF zs zs.length 0 0
theorem num_loop {base : Nat} {h : AH} {s : ByteArray} (hs : s.size ≤ 7) : ∀ (d i : Nat) (n : Int), i + d = s.size → 0 ≤ n → n < 10 ^ i →
    ∃ e, loopL (B188_0 base) [some (.string s), some (.int .i64 n), some (.int .i64 (i : Int))] h = some (e, [some (.int .i64 (numF (sb s) d i n))], h) ∧ (e = 1 ∨ e = 2) ∧ -1 ≤ numF (sb s) d i n ∧ numF (sb s) d i n ≤ 10000000 := by
  intro d
  induction d with
  | zero =>
    intro i n hi h0 h1
    refine ⟨2, loop_off (by decide) ?_, .inr rfl, by simp only [numF]; omega, ?_⟩
    · rw [B188_0_eq]
      exact ifF (by simp; omega) rfl
    · simp only [numF]
      have : (10 : Int) ^ i ≤ 10 ^ 7 := by
        have h7 : i ≤ 7 := by omega
        match i, h7 with
        | 0, _ => decide
        | 1, _ => decide
        | 2, _ => decide
        | 3, _ => decide
        | 4, _ => decide
        | 5, _ => decide
        | 6, _ => decide
        | 7, _ => decide
        | n + 8, h => omega
      have e : (10 : Int) ^ 7 = 10000000 := by decide
      omega
  | succ d ih =>
    intro i n hi h0 h1
    have hlt : (0 : Int) ≤ (i : Int) ∧ (i : Int) < (s.size : Int) := ⟨by omega, by omega⟩
    have hb : 0 ≤ (sb s).getD i 0 ∧ (sb s).getD i 0 ≤ 255 := by
      have hl : i < (sb s).length := by rw [sb_len]; omega
      have : (sb s).getD i 0 = (sb s)[i] := by simp [List.getD, hl]
      rw [this]
      exact sb_bytes s _ (List.getElem_mem hl)
    have hn7 : n < 10000000 := by
      have h7 : i ≤ 6 := by omega
      have : (10 : Int) ^ i ≤ 1000000 := by
        match i, h7 with
        | 0, _ => decide
        | 1, _ => decide
        | 2, _ => decide
        | 3, _ => decide
        | 4, _ => decide
        | 5, _ => decide
        | 6, _ => decide
        | n + 7, h => omega
      omega
    have hin := l1In_run (base := base) (h := h) (x := (sb s).getD i 0) (a := 48) (b := 57)
    have hw : IntKind.wrap .i64 ((s.data.toList.getD (Int.toNat (i : Int)) 0).toNat : Int) = (sb s).getD i 0 := by
      rw [Int.toNat_natCast, sb_getD]
      exact w64i (by omega) (by omega)
    rw [numF]
    cases c : inB ((sb s).getD i 0) 48 57 with
    | false =>
      rw [c] at hin
      rw [if_neg (by decide)]
      refine ⟨1, loop_off (by decide) ?_, .inl rfl, by decide, by decide⟩
      rw [B188_0_eq]
      refine ifT (decide_eq_true hlt.2) (ifT hlt ?_)
      rw [hw]
      exact bs hin (bB rfl (ifT rfl rfl))
    | true =>
      rw [c] at hin
      rw [if_pos rfl]
      simp only [inB, Bool.and_eq_true, decide_eq_true_eq] at c
      have hp : (10 : Int) ^ (i + 1) = 10 * 10 ^ i := by rw [Int.pow_succ]; omega
      obtain ⟨e, y1, y2, y3, y4⟩ := ih (i + 1) (n * 10 + ((sb s).getD i 0 - 48)) (by omega) (by omega) (by omega)
      refine ⟨e, loop_on ?_ y1, y2, y3, y4⟩
      rw [B188_0_eq]
      refine ifT (decide_eq_true hlt.2) (ifT hlt ?_)
      rw [hw]
      refine bs hin (bB rfl (ifF (by decide) (ifT hlt ?_)))
      have w1 : IntKind.wrap .u8 (((s.data.toList.getD (Int.toNat (i : Int)) 0).toNat : Int) - (48 : Int)) = (sb s).getD i 0 - 48 := by
        rw [Int.toNat_natCast, sb_getD]
        exact wu8 (by omega) (by omega)
      rw [w1, w64i (n := (sb s).getD i 0 - 48) (by omega) (by omega), w64i (n := n * 10) (by omega) (by omega), w64i (n := n * 10 + ((sb s).getD i 0 - 48)) (by omega) (by omega), w64i (n := (i : Int) + 1) (by omega) (by omega)]
      rfl
theorem l1Number_run {base : Nat} {h : AH} {s : ByteArray} (hs : s.size ≤ 1048576) : run (Et base) 188 [.string s] h = some (.int .i64 (numL (sb s)), h) ∧ -1 ≤ numL (sb s) ∧ numL (sb s) ≤ 10000000 := by
  have hl := sb_len s
  have hin := l1In_run (base := base) (h := h) (x := (s.size : Int)) (a := 1) (b := 7)
  have hj : ((run (Et base) 62 [(.int .i64 (s.size : Int)), (.int .i64 (1 : Int)), (.int .i64 (7 : Int))] h).bind fun r2 =>
      ((some r2.1).bind getB).bind fun b3 =>
      (if (!b3) = true then
      some (Sum.inl ([some (.string s), some (.bool true)], r2.2))
      else
      (if (decide ((s.size : Int) > (1 : Int))) = true then
      (if 0 ≤ (0 : Int) ∧ (0 : Int) < (s.size : Int) then
      some (.inl ([some (.string s), some (.bool (((s.data.toList.getD (Int.toNat (0 : Int)) 0).toNat : Int) == (48 : Int)))], r2.2))
      else none)
      else
      some (.inl ([some (.string s), some (.bool false)], r2.2)))) : Option (Sum (Slots × AH) (Value × AH))) = some (.inl ([some (.string s), some (.bool (!inB ((sb s).length : Int) 1 7 || (decide (((sb s).length : Int) > 1) && (sb s).getD 0 0 == 48)))], h)) := by
    rw [hl]
    refine bs hin (bB rfl ?_)
    cases c : inB (s.size : Int) 1 7 with
    | false => exact ifT rfl rfl
    | true =>
      refine ifF (by decide) ?_
      by_cases c2 : (s.size : Int) > 1
      · refine ifT (decide_eq_true c2) (ifT ⟨by decide, by omega⟩ ?_)
        rw [decide_eq_true c2, Int.toNat_zero, sb_getD]
        rfl
      · refine ifF (by simpa using c2) ?_
        rw [decide_eq_false c2]
        rfl
  unfold numL
  cases c : (!inB ((sb s).length : Int) 1 7 || (decide (((sb s).length : Int) > 1) && (sb s).getD 0 0 == 48)) with
  | true =>
    rw [c] at hj
    rw [if_pos rfl]
    exact ⟨r188 (bj _ hj (bT rfl (bB rfl (ifT rfl rfl)))), by decide, by decide⟩
  | false =>
    rw [c] at hj
    rw [if_neg (by decide)]
    have h7 : s.size ≤ 7 := by
      rw [hl] at c
      simp only [Bool.or_eq_false_iff, Bool.not_eq_false', inB, Bool.and_eq_true, decide_eq_true_eq] at c
      omega
    obtain ⟨e, y1, y2, y3, y4⟩ := num_loop (base := base) (h := h) h7 s.size 0 0 (by omega) (by omega) (by decide)
    rw [show ((0 : Nat) : Int) = 0 from rfl] at y1
    rw [hl]
    refine ⟨r188 (bj _ hj (bT rfl (bB rfl (ifF (by decide) (bs y1 ?_))))), y3, y4⟩
    rcases y2 with rfl | rfl
    · exact ifT rfl (bI rfl rfl)
    · exact ifF (show ¬ (2 : Nat) = 1 by decide) (ifT rfl (bI rfl rfl))
def wholeL (zs : List Int) : Int × Bool := if (decide ((zs.length : Int) > 1) && zs.getD 0 0 == 45) = true then (-(numL (zs.drop 1)), decide (numL (zs.drop 1) > 0)) else (numL zs, decide (numL zs ≥ 0))
theorem l8Whole_run {base : Nat} {h : AH} {s : ByteArray} (hs : s.size ≤ 1048576) : run (Et base) 175 [.string s] h = some (.tuple #[.int .i64 (wholeL (sb s)).1, .bool (wholeL (sb s)).2], h) := by
  have hl := sb_len s
  have hj : ((if (decide ((s.size : Int) > (1 : Int))) = true then
      (if 0 ≤ (0 : Int) ∧ (0 : Int) < (s.size : Int) then
      some (Sum.inl ([some (.string s), some (.bool (((s.data.toList.getD (Int.toNat (0 : Int)) 0).toNat : Int) == (45 : Int)))], h))
      else none)
      else
      some (.inl ([some (.string s), some (.bool false)], h)) : Option (Sum (Slots × AH) (Value × AH)))) = some (.inl ([some (.string s), some (.bool (decide (((sb s).length : Int) > 1) && (sb s).getD 0 0 == 45))], h)) := by
    rw [hl]
    by_cases c2 : (s.size : Int) > 1
    · refine ifT (decide_eq_true c2) (ifT ⟨by decide, by omega⟩ ?_)
      rw [decide_eq_true c2, Int.toNat_zero, sb_getD]
      rfl
    · refine ifF (by simpa using c2) ?_
      rw [decide_eq_false c2]
      rfl
  unfold wholeL
  cases c : (decide (((sb s).length : Int) > 1) && (sb s).getD 0 0 == 45) with
  | true =>
    rw [c] at hj
    rw [if_pos rfl]
    have c1 : (s.size : Int) > 1 := by
      rw [hl] at c
      simp only [Bool.and_eq_true, decide_eq_true_eq] at c
      exact c.1
    have ed : sb (bstr ((sb s).drop 1)) = (sb s).drop 1 := sb_bstr fun x hx => sb_bytes s x (List.mem_of_mem_drop hx)
    have hx : s.extract (Int.toNat (1 : Int)) (Int.toNat (s.size : Int)) = bstr ((sb s).drop 1) := by
      rw [extract_sb, Int.toNat_natCast]
      congr 1
      exact List.take_of_length_le (by simp [sb_len])
    obtain ⟨e, b1, b2⟩ := l1Number_run (base := base) (h := h) (s := bstr ((sb s).drop 1)) (by rw [bstr_size]; simp [sb_len]; omega)
    rw [ed] at e b1 b2
    refine r175 (bj _ hj (bT rfl (bB rfl (ifT rfl (ifT ⟨by decide, by omega, Int.le_refl _⟩ ?_)))))
    rw [hx]
    refine bs e (bI rfl ?_)
    rw [w64i (by omega) (by omega)]
    simp
  | false =>
    rw [c] at hj
    rw [if_neg (by decide)]
    obtain ⟨e, b1, b2⟩ := l1Number_run (base := base) (h := h) hs
    exact r175 (bj _ hj (bT rfl (bB rfl (ifF (by decide) (bs e (bI rfl rfl))))))
end Go.Proofs.Ytnmjhhipbfngkaa.Am
