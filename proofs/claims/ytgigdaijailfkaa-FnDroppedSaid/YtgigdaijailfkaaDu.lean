/- The law Due: timers that are due and those that are not are all of them; of right timers each part is right.
Conditions: none. -/
import Derived.Test.YtgigdaijailfkaaTd
import Derived.Test.YtgigdaijailfkaaDt
set_option linter.unusedSimpArgs false
set_option linter.unusedVariables false
namespace Go.Proofs.Ytgigdaijailfkaa.Am
open Go Go.RowKit

theorem anyBadT_false {f : Nat} {l : List Sd} : ∀ (d i : Nat), anyBadT f l d i = false ↔ ∀ j, i ≤ j → j < i + d → badT f l j = false
  | 0, i => ⟨fun _ j h1 h2 => by omega, fun _ => rfl⟩
  | d + 1, i => by
    rw [anyBadT, Bool.or_eq_false_iff, anyBadT_false d (i + 1)]
    constructor
    · rintro ⟨h1, h2⟩ j hj hj2
      by_cases e : j = i
      · subst e; exact h1
      · exact h2 j (by omega) (by omega)
    · intro h
      exact ⟨h i (Nat.le_refl _) (by omega), fun j hj hj2 => h j (by omega) (by omega)⟩
theorem badT_false {f : Nat} {l : List Sd} {j : Nat} (hj : j < l.length) : badT f l j = false ↔ tmOk f l[j] = true ∧ ∀ (h : 0 < j), (l[j - 1]'(by omega)).kind ≤ l[j].kind := by
  unfold badT
  rw [gD hj]
  by_cases h0 : 0 < j
  · have hj1 : j - 1 < l.length := by omega
    rw [gD hj1]
    simp [h0]
  · have : j = 0 := by omega
    subst this
    simp
theorem tsOk_iff {f : Nat} {l : List Sd} : tsOk f l = true ↔ (∀ x ∈ l, tmOk f x = true) ∧ l.Pairwise (fun a b => a.kind ≤ b.kind) ∧ l.length ≤ 50 := by
  unfold tsOk
  rw [Bool.and_eq_true, Bool.not_eq_true', anyBadT_false, decide_eq_true_eq]
  constructor
  · rintro ⟨h1, h2⟩
    have hb : ∀ j (hj : j < l.length), tmOk f l[j] = true ∧ ∀ (h : 0 < j), (l[j - 1]'(by omega)).kind ≤ l[j].kind := fun j hj => (badT_false hj).1 (h1 j (by omega) (by omega))
    refine ⟨fun x hx => ?_, ?_, by omega⟩
    · obtain ⟨j, hj, rfl⟩ := List.mem_iff_getElem.1 hx
      exact (hb j hj).1
    · rw [List.pairwise_iff_getElem]
      have key : ∀ d i (hi : i + d < l.length), (l[i]'(by omega)).kind ≤ (l[i + d]'hi).kind := by
        intro d
        induction d with
        | zero => intro i hi; exact Int.le_refl _
        | succ d ih =>
          intro i hi
          have a := ih i (by omega)
          have b := (hb (i + (d + 1)) hi).2 (by omega)
          exact Int.le_trans a b
      intro i j hi hj hij
      have := key (j - i) i (by omega)
      simpa [show i + (j - i) = j from by omega] using this
  · rintro ⟨h1, h2, h3⟩
    refine ⟨fun j _ hj => (badT_false (by omega)).2 ⟨h1 _ (List.getElem_mem (by omega)), fun h0 => ?_⟩, by omega⟩
    rw [List.pairwise_iff_getElem] at h2
    exact h2 (j - 1) j (by omega) (by omega) (by omega)
theorem tsOk_filter {f : Nat} {l : List Sd} (q : Sd → Bool) (h : tsOk f l = true) : tsOk f (l.filter q) = true := by
  rw [tsOk_iff] at h ⊢
  obtain ⟨h1, h2, h3⟩ := h
  exact ⟨fun x hx => h1 x (List.mem_filter.1 hx).1, h2.filter q, Nat.le_trans (List.length_filter_le _ _) h3⟩
theorem parts_len {v : Int} : ∀ l : List Sd, (l.filter (qdue v)).length + (l.filter (qrest v)).length = l.length
  | [] => rfl
  | x :: r => by
    have ih := parts_len (v := v) r
    by_cases c : x.kind ≤ v
    · have cd : qdue v x = true := decide_eq_true c
      have cr : ¬ qrest v x = true := by unfold qrest; simp; omega
      rw [List.filter_cons_of_pos cd, List.filter_cons_of_neg cr]
      simp only [List.length_cons]
      omega
    · have cd : ¬ qdue v x = true := by unfold qdue; simpa using c
      have cr : qrest v x = true := by unfold qrest; simp; omega
      rw [List.filter_cons_of_neg cd, List.filter_cons_of_pos cr]
      simp only [List.length_cons]
      omega

theorem due_loop0 {base f n m : Nat} {p : Nat → Prop} {l : List Sd} {al a ar : Option Addr} {h : AH} {v : Int} (hl : l.length ≤ 1048576) (hs : SsR h p f l a) (hq : ∀ x ∈ l, x.kind ≤ v) : ∀ (d i : Nat), i + d = l.length →
    loopL (B10_0 base) [some (.slice al n n), some (.int .i64 v), some (.slice a l.length l.length), some (.slice ar m m), some (.int .i64 (i : Int))] h = some (2, [some (.slice al n n), some (.int .i64 v), some (.slice a l.length l.length), some (.slice ar m m)], h) := by
  intro d
  induction d with
  | zero =>
    intro i hi
    refine loop_off (by decide) ?_
    rw [B10_0_eq]
    exact ifF (by simp; omega) rfl
  | succ d ih =>
    intro i hi
    have hlt : i < l.length := by omega
    obtain ⟨ad, k, n', s, a2, m', rfl, _, g0, _⟩ := hs.get hlt
    have hk := hq l[i] (List.getElem_mem hlt)
    refine loop_on ?_ (ih (i + 1) (by omega))
    rw [B10_0_eq]
    refine ifT (decide_eq_true (by omega)) (ifT ⟨by omega, by omega⟩ (bs rfl ?_))
    simp only [Int.toNat_natCast]
    refine bI g0 (ifF (by simp; omega) ?_)
    rw [w64i (by omega) (by omega), show ((i : Int) + 1) = ((i + 1 : Nat) : Int) from by omega]
theorem due_loop1 {base f n m : Nat} {p : Nat → Prop} {l : List Sd} {al a ar : Option Addr} {h : AH} {v : Int} (hl : l.length ≤ 1048576) (hs : SsR h p f l a) (hq : ∀ x ∈ l, x.kind > v) : ∀ (d i : Nat), i + d = l.length →
    loopL (B10_1 base) [some (.slice al n n), some (.int .i64 v), some (.slice ar m m), some (.slice a l.length l.length), some (.int .i64 (i : Int))] h = some (4, [some (.slice al n n), some (.slice ar m m), some (.slice a l.length l.length)], h) := by
  intro d
  induction d with
  | zero =>
    intro i hi
    refine loop_off (by decide) ?_
    rw [B10_1_eq]
    exact ifF (by simp; omega) rfl
  | succ d ih =>
    intro i hi
    have hlt : i < l.length := by omega
    obtain ⟨ad, k, n', s, a2, m', rfl, _, g0, _⟩ := hs.get hlt
    have hk := hq l[i] (List.getElem_mem hlt)
    refine loop_on ?_ (ih (i + 1) (by omega))
    rw [B10_1_eq]
    refine ifT (decide_eq_true (by omega)) (ifT ⟨by omega, by omega⟩ (bs rfl ?_))
    simp only [Int.toNat_natCast]
    refine bI g0 (ifF (by simp; omega) ?_)
    rw [w64i (by omega) (by omega), show ((i : Int) + 1) = ((i + 1 : Nat) : Int) from by omega]

theorem due_all {base : Nat} {h : AH} {a : Option Addr} {zs : List Int} (s : Sl h a (iv .u8 zs)) (hb : h.length = base) :
    ∃ h', run (Et base) 10 [.slice a zs.length zs.length] h = some (.bool true, h') := by
  have hz : zs = [] ∨ ∀ b, blk a b → b < base := by
    rcases sl_below s with e | e
    · exact .inl (by cases zs with | nil => rfl | cons x r => simp [iv] at e)
    · exact .inr fun b hb' => by have := e b hb'; omega
  have big : run (Et base) 32 [.slice a zs.length zs.length] h = some (.bool (decide (((zs.length : Nat) : Int) > (1048576 : Int))), h) := r32 rfl
  by_cases c : ((zs.length : Nat) : Int) > (1048576 : Int)
  · exact ⟨h, r10 (bs big (bB rfl (ifT (decide_eq_true c) rfl)))⟩
  obtain ⟨l, al, v, q, h3, e3, R3, hq3, hB3, hl3, k3⟩ := drawDue_run (base := base) s hz (by omega) (by omega)
  have n3 := k3.1
  obtain ⟨a7, a8, mid, h7, e7, G, G2, md1, md2, k7⟩ := implDue_run (base := base) (v := v) (by omega) hB3 (R3.ssR.mono (r := fun b => b < h3.length) fun b hb => by have := hq3 b hb; omega) (by omega) (fun b hb => hb)
  have n7 := k7.1
  have hp := parts_len (v := v) l
  have d0 := due_loop0 (base := base) (al := al) (n := l.length) (ar := a8) (m := (l.filter (qrest v)).length) (v := v) (by omega) G.ssR (fun x hx => by have := (List.mem_filter.1 hx).2; simpa [qdue] using this) (l.filter (qdue v)).length 0 (by omega)
  have d1 := due_loop1 (base := base) (al := al) (n := l.length) (ar := a7) (m := (l.filter (qdue v)).length) (v := v) (by omega) G2.ssR (fun x hx => by have := (List.mem_filter.1 hx).2; simpa [qrest] using this) (l.filter (qrest v)).length 0 (by omega)
  rw [show ((0 : Nat) : Int) = 0 from rfl] at d0 d1
  obtain ⟨h22, e22, k22⟩ := specTimersOk_run (base := base) (by omega) (R3.keepN k7).ssR (by omega)
  have n22 := k22.1
  have start : ∀ r, ((if (!tsOk dF l) = true then some (Value.bool true, h22) else
      (run (Et base) 45 [(.slice a7 (l.filter (qdue v)).length (l.filter (qdue v)).length)] h22).bind fun r24 =>
      ((some r24.1).bind getB).bind fun b25 =>
      (if b25 = true then
      (run (Et base) 45 [(.slice a8 (l.filter (qrest v)).length (l.filter (qrest v)).length)] r24.2).bind fun r26 =>
      ((some r26.1).bind getB).bind fun b27 =>
      some ((.bool b27), r26.2)
      else
      some ((.bool false), r24.2))) : Option (Value × AH)) = some r → run (Et base) 10 [.slice a zs.length zs.length] h = some r := by
    intro r hr
    refine r10 (bs big (bB rfl (ifF (by simpa using c) (bs e3 (bs rfl (bS rfl (bI rfl (bs e7 (bs rfl (bS rfl (bS rfl ?_)))))))))))
    refine ifF ?_ ?_
    · rw [w64i (by omega) (by omega)]
      simp
      omega
    · refine bs d0 (ifF (by simp) (ifT rfl (bS rfl (bI rfl (bS rfl (bS rfl ?_))))))
      exact bs d1 (ifF (by simp) (ifT rfl (bS rfl (bS rfl (bS rfl (bs e22 (bB rfl hr)))))))
  cases ok : tsOk dF l with
  | false =>
    rw [ok] at start
    exact ⟨h22, start _ (ifT rfl rfl)⟩
  | true =>
    rw [ok] at start
    obtain ⟨h24, e24, k24⟩ := implTimersOk_run (base := base) (by omega) (G.keep (SdD.kp _) k22 fun _ _ h => h).ssR (by omega)
    have n24 := k24.1
    rw [tsOk_filter _ ok] at e24
    obtain ⟨h26, e26, k26⟩ := implTimersOk_run (base := base) (by omega) (G2.keep (SdD.kp _) (kN k22 k24) fun _ _ h => h).ssR (by omega)
    rw [tsOk_filter _ ok] at e26
    exact ⟨h26, start _ (ifF (by decide) (bs e24 (bB rfl (ifT rfl (bs e26 (bB rfl rfl))))))⟩
end Go.Proofs.Ytgigdaijailfkaa.Am
