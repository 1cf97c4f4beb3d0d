/- The reference's reading of code in words.
Conditions: none. -/
import Derived.Test.YtnmjhhipbfngkaaSp
set_option linter.unusedSimpArgs false
set_option linter.unusedVariables false
namespace Go.Proofs.Ytnmjhhipbfngkaa.Am
open Go Go.RowKit

def setI (x : In) (c : Int) (w : List Int) : In × Bool :=
  if (c == (83 : Int)) = true then ({ x with s := bstr w }, true)
  else if (c == (65 : Int)) = true then ({ x with a := (wholeL w).1 }, (wholeL w).2)
  else if (c == (66 : Int)) = true then ({ x with b := (wholeL w).1 }, (wholeL w).2)
  else if (c == (67 : Int)) = true then ({ x with c := (wholeL w).1 }, (wholeL w).2)
  else ({ x with n := (wholeL w).1 }, (wholeL w).2)
theorem l8Set_run {base xb : Nat} {h : AH} {x : In} {c : Int} {w : List Int} (hw : ∀ z ∈ w, 0 ≤ z ∧ z ≤ 255) (hl : w.length ≤ 1048576) (o : Own base 116 h (at0 xb) (inV x)) :
    ∃ h', run (Et base) 164 [.pointer (at0 xb), .int .u8 c, .string (bstr w)] h = some (.bool (setI x c w).2, h') ∧ Own base 116 h' (at0 xb) (inV (setI x c w).1) ∧ KB (· = xb) h h' ∧ h'.length = h.length := by
  have hwh := l8Whole_run (base := base) (h := h) (s := bstr w) (by rw [bstr_size]; exact hl)
  rw [sb_bstr hw] at hwh
  unfold setI
  by_cases c0 : (c == (83 : Int)) = true
  · rw [if_pos c0]
    obtain ⟨h', e, o', k, l⟩ := o.wr0 (i := 5) (new := [.string (bstr w)]) (by simp) (by simp)
    exact ⟨h', r164 (ifT c0 (bs rfl (bs e rfl))), o', k.mono fun b _ hb => by omega, l⟩
  · rw [if_neg c0]
    by_cases c1 : (c == (65 : Int)) = true
    · rw [if_pos c1]
      obtain ⟨h', e, o', k, l⟩ := o.wr0 (i := 1) (new := [.int .i64 (wholeL w).1]) (by simp) (by simp)
      exact ⟨h', r164 (ifF c0 (bs hwh (bs rfl (bI rfl (bB rfl (bj (q := ([some (.bool (wholeL w).2)], h')) (ifT c1 (bs rfl (bs e rfl))) (bB rfl rfl))))))), o', k.mono fun b _ hb => by omega, l⟩
    · rw [if_neg c1]
      by_cases c2 : (c == (66 : Int)) = true
      · rw [if_pos c2]
        obtain ⟨h', e, o', k, l⟩ := o.wr0 (i := 2) (new := [.int .i64 (wholeL w).1]) (by simp) (by simp)
        exact ⟨h', r164 (ifF c0 (bs hwh (bs rfl (bI rfl (bB rfl (bj (q := ([some (.bool (wholeL w).2)], h')) (ifF c1 (ifT c2 (bs rfl (bs e rfl)))) (bB rfl rfl))))))), o', k.mono fun b _ hb => by omega, l⟩
      · rw [if_neg c2]
        by_cases c3 : (c == (67 : Int)) = true
        · rw [if_pos c3]
          obtain ⟨h', e, o', k, l⟩ := o.wr0 (i := 3) (new := [.int .i64 (wholeL w).1]) (by simp) (by simp)
          exact ⟨h', r164 (ifF c0 (bs hwh (bs rfl (bI rfl (bB rfl (bj (q := ([some (.bool (wholeL w).2)], h')) (ifF c1 (ifF c2 (ifT c3 (bs rfl (bs e rfl))))) (bB rfl rfl))))))), o', k.mono fun b _ hb => by omega, l⟩
        · rw [if_neg c3]
          obtain ⟨h', e, o', k, l⟩ := o.wr0 (i := 4) (new := [.int .i64 (wholeL w).1]) (by simp) (by simp)
          exact ⟨h', r164 (ifF c0 (bs hwh (bs rfl (bI rfl (bB rfl (bj (q := ([some (.bool (wholeL w).2)], h')) (ifF c1 (ifF c2 (ifF c3 (bs rfl (bs e rfl))))) (bB rfl rfl))))))), o', k.mono fun b _ hb => by omega, l⟩

/-- What the letters name, set word by word. -/
def setsF (us : List Int) (ws : List (List Int)) : Nat → Nat → In → Bool → In × Bool
  | 0, _, x, ok => (x, ok)
  | d + 1, k, x, ok => if ok = true then setsF us ws d (k + 1) (setI x (us.getD k 0) (ws.getD (k + 1) [])).1 (setI x (us.getD k 0) (ws.getD (k + 1) [])).2 else (x, false)
theorem strs_at {base t : Nat} {h : AH} {a : Option Addr} {ws : List (List Int)} (s : Sl h a (strsV ws)) {i : Nat} (hi : i < ws.length) : ∃ ad, a = some ad ∧ Am.cell h ad.block (ad.off + i) = some (.string (bstr (ws.getD i []))) := by
  have : (strsV ws)[i]? = some (.string (bstr (ws.getD i []))) := by simp [strsV, List.getD, hi]
  exact s.cell this
theorem sets_loop {base b0 xb : Nat} {us : ByteArray} {ws : List (List Int)} {aw : Option Addr} (hus : us.size ≤ 3) (hws : ∀ w ∈ ws, w.length ≤ 1048576 ∧ ∀ z ∈ w, 0 ≤ z ∧ z ≤ 255) (haw : ∀ b, blk aw b → b ≠ xb) : ∀ (d k : Nat) (h : AH) (x : In) (ok : Bool), k + d = us.size → (ok = true → 0 < d → ws.length = us.size + 1) → Sl h aw (strsV ws) → Own base 116 h (at0 xb) (inV x) →
    ∃ h', loopL (B149_1 base) [some (.pointer (at0 b0)), some (.slice aw ws.length ws.length), some (.string us), some (.pointer (at0 xb)), some (.bool ok), some (.int .i64 (k : Int))] h = some (4, [some (.pointer (at0 b0)), some (.pointer (at0 xb)), some (.bool (setsF (sb us) ws d k x ok).2)], h') ∧ Own base 116 h' (at0 xb) (inV (setsF (sb us) ws d k x ok).1) ∧ KB (· = xb) h h' ∧ h'.length = h.length := by
  intro d
  induction d with
  | zero =>
    intro k h x ok hk hlen hs o
    refine ⟨h, loop_off (by decide) ?_, o, KB.refl _ _, rfl⟩
    rw [B149_1_eq]
    refine bj (q := ([some (.pointer (at0 b0)), some (.slice aw ws.length ws.length), some (.string us), some (.pointer (at0 xb)), some (.bool ok), some (.int .i64 (k : Int)), some (.bool false)], h)) (ifF (by simp; omega) rfl) ?_
    exact bs rfl (bS rfl (bT rfl (bs rfl (bB rfl (bI rfl (bB rfl (ifF (by decide) rfl)))))))
  | succ d ih =>
    intro k h x ok hk hlen hs o
    rw [setsF]
    cases ok with
    | false =>
      rw [if_neg (by decide)]
      refine ⟨h, loop_off (by decide) ?_, o, KB.refl _ _, rfl⟩
      rw [B149_1_eq]
      refine bj (q := ([some (.pointer (at0 b0)), some (.slice aw ws.length ws.length), some (.string us), some (.pointer (at0 xb)), some (.bool false), some (.int .i64 (k : Int)), some (.bool false)], h)) (ifT (decide_eq_true (by omega)) rfl) ?_
      exact bs rfl (bS rfl (bT rfl (bs rfl (bB rfl (bI rfl (bB rfl (ifF (by decide) rfl)))))))
    | true =>
      rw [if_pos rfl]
      have hl := hlen rfl (Nat.succ_pos _)
      obtain ⟨ad, rfl, g⟩ := strs_at (base := base) (t := 0) hs (i := k + 1) (by omega)
      have hmem : ws.getD (k + 1) [] ∈ ws := by
        have hk1 : k + 1 < ws.length := by omega
        have : ws.getD (k + 1) [] = ws[k + 1] := by simp [List.getD, hk1]
        rw [this]
        exact List.getElem_mem _
      obtain ⟨w1, w2⟩ := hws _ hmem
      obtain ⟨h1, e1, o1, k1, l1⟩ := l8Set_run (base := base) (c := (sb us).getD k 0) w2 w1 o
      obtain ⟨h2, e2, o2, k2, l2⟩ := ih (k + 1) h1 _ _ (by omega) (fun _ _ => hl) (hs.keep k1 fun b hb hk => haw b hb hk) o1
      refine ⟨h2, loop_on ?_ e2, o2, KB.trans k1 k2 (fun _ _ h => h) (fun _ _ h => h), by omega⟩
      rw [B149_1_eq]
      refine bj (q := ([some (.pointer (at0 b0)), some (.slice (some ad) ws.length ws.length), some (.string us), some (.pointer (at0 xb)), some (.bool true), some (.int .i64 (k : Int)), some (.bool true)], h)) (ifT (decide_eq_true (by omega)) rfl) ?_
      refine bs rfl (bS rfl (bT rfl (bs rfl (bB rfl (bI rfl (bB rfl (ifT rfl (ifT ⟨by omega, by omega⟩ ?_))))))))
      rw [w64i (n := (k : Int) + 1) (by omega) (by omega), show (k : Int) + 1 = ((k + 1 : Nat) : Int) from by omega, Int.toNat_natCast, Int.toNat_natCast, Nat.mul_one, sb_getD]
      exact ifT ⟨by omega, by omega⟩ (bs rfl (bT g (bs e1 (bB rfl rfl))))

def nmL : List (List Int) := [[105, 110, 116], [97, 116, 111, 109], [109, 111, 118, 101], [116, 117, 112, 108, 101], [99, 111, 110, 115], [101, 108, 101, 109], [104, 101, 97, 100], [116, 97, 105, 108], [97, 100, 100], [115, 97, 109, 101], [107, 105, 110, 100], [106, 117, 109, 112], [115, 101, 110, 100], [116, 97, 107, 101], [115, 101, 108, 102], [109, 97, 107, 101], [115, 97, 121], [108, 105, 110, 107], [101, 110, 100], [110, 105, 108]]
theorem nm_bytes : ∀ w ∈ nmL, ∀ z ∈ w, 0 ≤ z ∧ z ≤ 255 := by decide
/-- The first instruction of that name. -/
def insF (ws : List (List Int)) : Nat → Nat → In × Bool
  | 0, _ => (⟨0, 0, 0, 0, 0, ⟨#[]⟩⟩, false)
  | d + 1, i => if nmL.getD i [] = ws.getD 0 [] then setsF (sb (shp ((i : Int) + 1))) ws (shp ((i : Int) + 1)).size 0 ⟨(i : Int) + 1, 0, 0, 0, 0, ⟨#[]⟩⟩ (ws.length == (shp ((i : Int) + 1)).size + 1) else insF ws d (i + 1)
theorem ins_loop {base b0 : Nat} {ws : List (List Int)} {aw an : Option Addr} {lo : Nat} (hws : ∀ w ∈ ws, w.length ≤ 1048576 ∧ ∀ z ∈ w, 0 ≤ z ∧ z ≤ 255) (h0 : 0 < ws.length) (hlen : ws.length ≤ 1048577) (hlo : base ≤ lo) (hb0 : b0 < lo) (haw : ∀ b, blk aw b → b < lo ∧ b ≠ b0) (han : ∀ b, blk an b → b < lo ∧ b ≠ b0) : ∀ (d i : Nat) (h : AH), i + d = 20 → lo ≤ h.length → Sl h aw (strsV ws) → Sl h an (strsV nmL) → Own base 116 h (at0 b0) (inV ⟨0, 0, 0, 0, 0, ⟨#[]⟩⟩) →
    ∃ h', ((loopL (B149_0 base) [some (.pointer (at0 b0)), some (.slice aw ws.length ws.length), some (.slice an 20 20), some (.int .i64 (i : Int))] h = some (1, [some (.pointer (at0 b0)), some (.bool (insF ws d i).2)], h') ∨
        (loopL (B149_0 base) [some (.pointer (at0 b0)), some (.slice aw ws.length ws.length), some (.slice an 20 20), some (.int .i64 (i : Int))] h = some (2, [some (.pointer (at0 b0))], h') ∧ insF ws d i = (⟨0, 0, 0, 0, 0, ⟨#[]⟩⟩, false)))) ∧ Own base 116 h' (at0 b0) (inV (insF ws d i).1) ∧ KB (fun b => b = b0 ∨ lo ≤ b) h h' := by
  intro d
  induction d with
  | zero =>
    intro i h hi hlh hs hn o
    refine ⟨h, .inr ⟨loop_off (by decide) ?_, rfl⟩, o, KB.refl _ _⟩
    rw [B149_0_eq]
    exact ifF (by simp; omega) rfl
  | succ d ih =>
    intro i h hi hlh hs hn o
    have hI : (0 : Int) ≤ (i : Int) ∧ (i : Int) < ((20 : Nat) : Int) := ⟨by omega, by omega⟩
    obtain ⟨o1, k1, q1⟩ := box_own (base := base) (t := 9) (h := h) (cs := usesV) (by omega) rfl
    generalize hh1 : h ++ [some (⟨usesV, 9⟩ : Blk)] = h1 at o1 k1 q1
    have e1 : run (Et base) 141 [] h = some (.slice (at0 h.length) 20 20, h1) := r141 (lets fun y ey => by
      have : y = h1 := ey.trans hh1
      rw [this])
    have hs1 := hs.keepN k1
    have hn1 := hn.keepN k1
    have gu : Am.cell h1 h.length (0 + i * 1) = some (.string (shp ((i : Int) + 1))) := by
      have := uses_at (op := (i : Int) + 1) (by omega)
      rw [show Int.toNat ((i : Int) + 1 - 1) = i from by omega] at this
      rw [Nat.zero_add, Nat.mul_one]
      exact o1.at0 this
    obtain ⟨adn, rfl, gn⟩ := strs_at (base := base) (t := 0) hn1 (i := i) (by show i < 20; omega)
    obtain ⟨adw, rfl, gw⟩ := strs_at (base := base) (t := 0) hs1 (i := 0) h0
    have hnb : ∀ z ∈ nmL.getD i [], 0 ≤ z ∧ z ≤ 255 := by
      have hl : i < nmL.length := by show i < 20; omega
      have : nmL.getD i [] = nmL[i] := by simp [List.getD, hl]
      rw [this]
      exact nm_bytes _ (List.getElem_mem hl)
    have hwb : ∀ z ∈ ws.getD 0 [], 0 ≤ z ∧ z ≤ 255 := by
      have : ws.getD 0 [] = ws[0] := by simp [List.getD, h0]
      rw [this]
      exact (hws _ (List.getElem_mem h0)).2
    have heq := bstr_inj hnb hwb
    have hu3 : (shp ((i : Int) + 1)).size ≤ 3 := by
      rcases op_cases (op := (i : Int) + 1) (by omega) with e | e | e | e | e | e | e | e | e | e | e | e | e | e | e | e | e | e | e | e <;> rw [e] <;> decide
    rw [insF]
    by_cases c : nmL.getD i [] = ws.getD 0 []
    · rw [if_pos c]
      rw [decide_eq_true c] at heq
      obtain ⟨o9, k9, q9⟩ := box_own (base := base) (t := 116) (h := h1) (cs := inV ⟨0, 0, 0, 0, 0, ⟨#[]⟩⟩) (by omega) rfl
      generalize hh9 : h1 ++ [some (⟨inV ⟨0, 0, 0, 0, 0, ⟨#[]⟩⟩, 116⟩ : Blk)] = h9 at o9 k9 q9
      obtain ⟨h10, e10, o10, k10, l10⟩ := o9.wr0 (i := 0) (new := inV ⟨(i : Int) + 1, 0, 0, 0, 0, ⟨#[]⟩⟩) (by simp) (by simp)
      have hz : setAt (inV ⟨0, 0, 0, 0, 0, ⟨#[]⟩⟩) 0 (inV ⟨(i : Int) + 1, 0, 0, 0, 0, ⟨#[]⟩⟩) = inV ⟨(i : Int) + 1, 0, 0, 0, 0, ⟨#[]⟩⟩ := rfl
      rw [hz] at o10
      have k110 : KB NoB h1 h10 := kFresh k9 k10 fun b hb => by omega
      have e11w : ((((ws.length : Nat) : Int) == IntKind.wrap .i64 (((shp ((i : Int) + 1)).size : Int) + (1 : Int)))) = (ws.length == (shp ((i : Int) + 1)).size + 1) := by
        rw [w64i (by omega) (by omega)]
        by_cases cc : ws.length = (shp ((i : Int) + 1)).size + 1
        · have : ((ws.length : Nat) : Int) = ((shp ((i : Int) + 1)).size : Int) + 1 := by omega
          rw [beq_iff_eq.2 cc, beq_iff_eq.2 this]
        · have : ((ws.length : Nat) : Int) ≠ ((shp ((i : Int) + 1)).size : Int) + 1 := by omega
          rw [beq_eq_false_iff_ne.2 cc, beq_eq_false_iff_ne.2 this]
      obtain ⟨h11, e11, o11, k11, l11⟩ := sets_loop (base := base) (b0 := b0) (xb := h1.length) (us := shp ((i : Int) + 1)) hu3 hws (fun b hb => by have := (haw b hb).1; omega) (shp ((i : Int) + 1)).size 0 h10 ⟨(i : Int) + 1, 0, 0, 0, 0, ⟨#[]⟩⟩ (ws.length == (shp ((i : Int) + 1)).size + 1) (by omega) (fun h _ => by simpa using h) (hs1.keepN k110) o10
      rw [show ((0 : Nat) : Int) = 0 from rfl] at e11
      generalize setsF (sb (shp ((i : Int) + 1))) ws (shp ((i : Int) + 1)).size 0 ⟨(i : Int) + 1, 0, 0, 0, 0, ⟨#[]⟩⟩ (ws.length == (shp ((i : Int) + 1)).size + 1) = p at e11 o11
      have k011 : KB (fun b => lo ≤ b) h h11 := KB.trans (kN k1 k110) k11 (fun _ _ h => h.elim) (fun b _ hb => by omega)
      obtain ⟨h21, e21, o21, k21, l21⟩ := (o.keep k011 fun b hb hk => by rw [blk_at0] at hb; omega).wr0 (i := 0) (new := inV p.1) (by simp) (by simp)
      have hz2 : setAt (inV ⟨0, 0, 0, 0, 0, ⟨#[]⟩⟩) 0 (inV p.1) = inV p.1 := rfl
      rw [hz2] at o21
      refine ⟨h21, .inl (loop_off (by decide) ?_), o21, KB.trans k011 k21 (fun _ _ h => .inr h) (fun b _ hb => .inl (by omega))⟩
      rw [B149_0_eq]
      refine ifT (decide_eq_true hI.2) (bs e1 (bS rfl (ifT hI (bs rfl ?_))))
      rw [Int.toNat_natCast]
      refine bT gu (ifT hI (bs rfl ?_))
      rw [Nat.mul_one]
      refine bT gn (ifT ⟨by decide, by omega⟩ (bs rfl ?_))
      rw [Int.toNat_zero, Nat.zero_mul]
      refine bT gw (ifF (by rw [heq]; decide) (lets fun y ey => ?_))
      rw [hh9] at ey
      subst ey
      rw [w64i (n := (i : Int) + 1) (by omega) (by omega)]
      refine bs e10 ?_
      rw [e11w]
      exact bs e11 (ifT rfl (bs rfl (bs rfl (bB rfl (qi o11 (bs e21 rfl))))))
    · rw [if_neg c]
      rw [decide_eq_false c] at heq
      obtain ⟨h2, e2, o2, k2⟩ := ih (i + 1) h1 (by omega) (by omega) hs1 hn1 (o.keepN k1)
      have step : B149_0 base [some (.pointer (at0 b0)), some (.slice (some adw) ws.length ws.length), some (.slice (some adn) 20 20), some (.int .i64 (i : Int))] h = some (0, [some (.pointer (at0 b0)), some (.slice (some adw) ws.length ws.length), some (.slice (some adn) 20 20), some (.int .i64 ((i + 1 : Nat) : Int))], h1) := by
        rw [B149_0_eq]
        refine ifT (decide_eq_true hI.2) (bs e1 (bS rfl (ifT hI (bs rfl ?_))))
        rw [Int.toNat_natCast]
        refine bT gu (ifT hI (bs rfl ?_))
        rw [Nat.mul_one]
        refine bT gn (ifT ⟨by decide, by omega⟩ (bs rfl ?_))
        rw [Int.toNat_zero, Nat.zero_mul]
        refine bT gw (ifT (by rw [heq]; decide) ?_)
        rw [w64i (n := (i : Int) + 1) (by omega) (by omega)]
        rfl
      exact ⟨h2, e2.imp (loop_on step) fun ⟨a, b⟩ => ⟨loop_on step a, b⟩, o2, KB.trans k1 k2 (fun _ _ h => h.elim) (fun _ _ h => h)⟩
def insL (zs : List Int) : In × Bool := insF (splitL zs 32) 20 0
theorem splitL_ok {zs : List Int} (hz : ∀ x ∈ zs, 0 ≤ x ∧ x ≤ 255) (hl : zs.length ≤ 1048576) (c : Int) : (∀ w ∈ splitL zs c, w.length ≤ 1048576 ∧ ∀ z ∈ w, 0 ≤ z ∧ z ≤ 255) ∧ 0 < (splitL zs c).length ∧ (splitL zs c).length ≤ 1048577 := by
  refine ⟨fun w hw => ⟨?_, ?_⟩, ?_, ?_⟩
  · have := splitF_short c (zs.length + 1) 0 0 [] (fun w hw => nomatch hw) w hw
    omega
  · exact splitF_bytes hz c (zs.length + 1) 0 0 [] (fun w hw => nomatch hw) w hw
  · exact splitF_pos zs c (zs.length + 1) 0 0 [] (by omega) (.inl (by omega))
  · have := splitF_len zs c (zs.length + 1) 0 0 []
    simp at this
    unfold splitL
    omega
theorem l8Ins_run {base : Nat} {h : AH} {zs : List Int} (hz : ∀ x ∈ zs, 0 ≤ x ∧ x ≤ 255) (hl : zs.length ≤ 1048576) (hb : base ≤ h.length) :
    ∃ h', run (Et base) 149 [.string (bstr zs)] h = some (.tuple #[.agg (inV (insL zs).1).toArray, .bool (insL zs).2], h') ∧ KB NoB h h' := by
  obtain ⟨s1, s2, s3⟩ := splitL_ok hz hl 32
  obtain ⟨o1, k1, q1⟩ := box_own (base := base) (t := 116) (h := h) (cs := inV ⟨0, 0, 0, 0, 0, ⟨#[]⟩⟩) hb rfl
  generalize hh1 : h ++ [some (⟨inV ⟨0, 0, 0, 0, 0, ⟨#[]⟩⟩, 116⟩ : Blk)] = h1 at o1 k1 q1
  obtain ⟨a2, h2, e2, o2, f2, k2⟩ := l8Split_run (base := base) (h := h1) (s := bstr zs) (c := 32) (by rw [bstr_size]; exact hl) (by omega)
  rw [sb_bstr hz] at e2 o2
  have n2 := k2.1
  obtain ⟨o4, k4, q4⟩ := box_own (base := base) (t := 9) (h := h2) (cs := strsV nmL) (by omega) rfl
  generalize hh4 : h2 ++ [some (⟨strsV nmL, 9⟩ : Blk)] = h4 at o4 k4 q4
  have e4 : run (Et base) 163 [] h2 = some (.slice (at0 h2.length) 20 20, h4) := r163 (lets fun y ey => by
    have : y = h4 := ey.trans hh4
    rw [this])
  have k14 := kN k2 k4
  obtain ⟨h6, e6, o6, k6⟩ := ins_loop (base := base) (b0 := h.length) (lo := h4.length) s1 s2 s3 (by omega) (by omega) (fun b hb => by have := f2 b hb; have := (o2.lt hb).2; omega) (fun b hb => by rw [blk_at0] at hb; omega) 20 0 h4 (by omega) (Nat.le_refl _) (o2.keepN k4).sl o4.sl (o1.keepN k14)
  rw [show ((0 : Nat) : Int) = 0 from rfl] at e6
  have k06 : KB NoB h h6 := kFresh (kN k1 k14) k6 fun i hi => by omega
  unfold insL
  rcases e6 with e6 | ⟨e6, ez⟩
  · refine ⟨h6, r149 (lets fun y ey => ?_), k06⟩
    rw [hh1] at ey
    subst ey
    exact bs e2 (bS rfl (bs e4 (bS rfl (bs e6 (ifT rfl (bs rfl (bB rfl (qi o6 rfl))))))))
  · rw [ez] at o6 ⊢
    obtain ⟨h16, e16, o16, k16, l16⟩ := o6.wr0 (i := 0) (new := inV ⟨0, 0, 0, 0, 0, ⟨#[]⟩⟩) (by simp) (by simp)
    have hz2 : setAt (inV ⟨0, 0, 0, 0, 0, ⟨#[]⟩⟩) 0 (inV ⟨0, 0, 0, 0, 0, ⟨#[]⟩⟩) = inV ⟨0, 0, 0, 0, 0, ⟨#[]⟩⟩ := rfl
    rw [hz2] at o16
    refine ⟨h16, r149 (lets fun y ey => ?_), kFresh k06 k16 fun i hi => by omega⟩
    rw [hh1] at ey
    subst ey
    exact bs e2 (bS rfl (bs e4 (bS rfl (bs e6 (ifF (show ¬ (2 : Nat) = 1 by decide) (ifT rfl (bs rfl (bs e16 (qi o16 rfl)))))))))
end Go.Proofs.Ytnmjhhipbfngkaa.Am
