/- Is code right: the program's answer is the reference's.
Conditions: none. -/
import Derived.Test.YtnmjhhipbfngkaaCo
set_option linter.unusedSimpArgs false
set_option linter.unusedVariables false
namespace Go.Proofs.Ytnmjhhipbfngkaa.Am
open Go Go.RowKit

theorem specInsOk_run {base : Nat} {h : AH} {x : In} {n : Int} (hs : x.s.size ≤ 9223372036854775807) (hb : base ≤ h.length) : ∃ h', run (Et base) 120 [.agg (inV x).toArray, .int .i64 n] h = some (.bool (specB x n), h') ∧ KB NoB h h' := by
  obtain ⟨o1, k1, q1⟩ := box_own (base := base) (t := 116) (h := h) (cs := inV x) hb rfl
  generalize hh1 : h ++ [some (⟨inV x, 116⟩ : Blk)] = h1 at o1 k1 q1
  have e1 := l1In_run (base := base) (h := h1) (x := n) (a := 1) (b := 200)
  have e2 := l1In_run (base := base) (h := h1) (x := x.op) (a := 1) (b := 20)
  cases c1 : inB n 1 200 with
  | false =>
    rw [c1] at e1
    rw [show specB x n = false by unfold specB; rw [c1]; rfl]
    refine ⟨h1, r120 (lets fun y ey => ?_), k1⟩
    rw [hh1] at ey
    rw [ey]
    exact bj _ (bs e1 (bB rfl (ifT rfl rfl))) (bI rfl (bs rfl (bB rfl (ifT rfl rfl))))
  | true =>
    rw [c1] at e1
    cases c2 : inB x.op 1 20 with
    | false =>
      rw [c2] at e2
      rw [show specB x n = false by unfold specB; rw [c1, c2]; rfl]
      refine ⟨h1, r120 (lets fun y ey => ?_), k1⟩
      rw [hh1] at ey
      rw [ey]
      exact bj _ (bs e1 (bB rfl (ifF (by decide) (bI (o1.at0 (i := 0) rfl) (bs e2 (bB rfl rfl)))))) (bI rfl (bs rfl (bB rfl (ifT rfl rfl))))
    | true =>
      rw [c2] at e2
      have hop : 1 ≤ x.op ∧ x.op ≤ 20 := by
        unfold inB at c2
        simp at c2
        omega
      obtain ⟨o3, k3, q3⟩ := box_own (base := base) (t := 9) (h := h1) (cs := usesV) (by omega) rfl
      generalize hh3 : h1 ++ [some (⟨usesV, 9⟩ : Blk)] = h3 at o3 k3 q3
      have e3 : run (Et base) 141 [] h1 = some (.slice (at0 h1.length) 20 20, h3) := r141 (lets fun y ey => by
        have : y = h3 := ey.trans hh3
        rw [this])
      have o1 := o1.keepN k3
      have k03 := kN k1 k3
      have hw : IntKind.wrap .i64 (x.op - 1) = x.op - 1 := w64i (by omega) (by omega)
      have hsz : (shp x.op).size ≤ 9223372036854775807 := by
        rcases op_cases hop with e | e | e | e | e | e | e | e | e | e | e | e | e | e | e | e | e | e | e | e <;> rw [e] <;> decide
      have eA := l8Reg_run (base := base) (h := h3) (s := shp x.op) (c := 65) (r := x.a) hsz
      have eC := l8Reg_run (base := base) (h := h3) (s := shp x.op) (c := 67) (r := x.c) hsz
      have eB := l8Reg_run (base := base) (h := h3) (s := shp x.op) (c := 66) (r := x.b) hsz
      have eK := l1In_run (base := base) (h := h3) (x := x.b) (a := 1) (b := 6)
      have eS := specAtomOk_run (base := base) (h := h3) hs
      obtain ⟨h4, e4, k4⟩ := l8Num_run (base := base) (h := h3) (x := x) (n := n) (by omega)
      have g0 := o1.at0 (i := 0) rfl
      have head : ∀ {r : Value × AH} (J : Bool), ((if (!regB (shp x.op) 65 x.a) = true then true else if (!regB (shp x.op) 67 x.c) = true then true else if (x.op != (11 : Int)) = true then !regB (shp x.op) 66 x.b else !inB x.b 1 6) = J) →
          (∀ (z : Bool), ((if (x.op == (2 : Int)) = true then !atomOk x.s else !emp x.s) = z) → (if J = true then some (.bool false, h3) else if z = true then some (.bool false, h3) else some (.bool (numB x n), h4)) = some r) → run (Et base) 120 [.agg (inV x).toArray, .int .i64 n] h = some r := by
        intro r J hJ hZ
        have fin := hZ _ rfl
        refine r120 (lets fun y ey => ?_)
        rw [hh1] at ey
        rw [ey]
        refine bj _ (bs e1 (bB rfl (ifF (by decide) (bI (by rw [← hh1]; exact (Own.new base _ h _ hb).at0 (i := 0) rfl) (bs e2 (bB rfl rfl)))))) (bI rfl (bs rfl (bB rfl (ifF (by decide) (bs e3 (bS rfl ?_))))))
        rw [gate_pos (same_keep k3 (by rw [← hh1]; exact (Own.new base _ h _ hb).at0 (i := 0) rfl))]
        refine bI g0 ?_
        rw [hw]
        refine ifT ⟨by omega, by omega⟩ (bs rfl ?_)
        refine bT (s := shp x.op) (by
          have := o3.at0 (i := Int.toNat (x.op - 1) * 1) (by rw [Nat.mul_one]; exact uses_at hop)
          rw [Nat.zero_add]
          exact this) ?_
        refine bj (q := ([some (.int .i64 n), some (.pointer (at0 h.length)), some (.bool J)], h3)) ?_ ?_
        · refine bI (o1.at0 (i := 1) rfl) (bs eA (bB rfl ?_))
          rw [← hJ]
          cases regB (shp x.op) 65 x.a with
          | false => exact ifT rfl rfl
          | true =>
            refine ifF (by decide) (bI (o1.at0 (i := 3) rfl) (bs eC (bB rfl ?_)))
            cases regB (shp x.op) 67 x.c with
            | false => exact ifT rfl rfl
            | true =>
              refine ifF (by decide) (bI g0 ?_)
              cases c5 : x.op != (11 : Int) with
              | true =>
                have c6 : (x.op == (11 : Int)) = false := by simpa [bne] using c5
                refine ifT rfl (bI (o1.at0 (i := 2) rfl) (bs eB (bB rfl ?_)))
                cases regB (shp x.op) 66 x.b with
                | false => exact ifT rfl rfl
                | true =>
                  refine ifF (by decide) (bI g0 ?_)
                  rw [c6]
                  exact ifF (by decide) rfl
              | false =>
                have c6 : (x.op == (11 : Int)) = true := by simpa [bne] using c5
                refine ifF (by decide) (bI g0 ?_)
                rw [c6]
                exact ifT rfl (bI (o1.at0 (i := 2) rfl) (bs eK (bB rfl rfl)))
        · refine bI rfl (bs rfl (bB rfl ?_))
          cases J with
          | true => exact ifT rfl (by simpa using fin)
          | false =>
            refine ifF (by decide) ?_
            rw [if_neg (by decide)] at fin
            refine bj (q := ([some (.int .i64 n), some (.pointer (at0 h.length)), some (.bool (if (x.op == (2 : Int)) = true then !atomOk x.s else !emp x.s))], h3)) ?_ ?_
            · refine bI g0 ?_
              cases c5 : x.op == (2 : Int) with
              | true =>
                have c6 : (x.op != (2 : Int)) = false := by simpa [bne] using c5
                refine ifT rfl (bT (o1.at0 (i := 5) rfl) (bs eS (bB rfl ?_)))
                cases atomOk x.s with
                | false => exact ifT rfl rfl
                | true =>
                  refine ifF (by decide) (bI g0 ?_)
                  rw [c6]
                  exact ifF (by decide) rfl
              | false =>
                have c6 : (x.op != (2 : Int)) = true := by simpa [bne] using c5
                refine ifF (by decide) (bI g0 ?_)
                rw [c6]
                exact ifT rfl (bT (o1.at0 (i := 5) rfl) rfl)
            · refine bI rfl (bs rfl (bB rfl ?_))
              revert fin
              cases (if (x.op == (2 : Int)) = true then !atomOk x.s else !emp x.s) with
              | true => intro fin; exact ifT rfl (by simpa using fin)
              | false =>
                intro fin
                exact ifF (by decide) (qi o1 (bs e4 (bB rfl (by simpa using fin))))
      have hv : specB x n = (!(if (!regB (shp x.op) 65 x.a) = true then true else if (!regB (shp x.op) 67 x.c) = true then true else if (x.op != (11 : Int)) = true then !regB (shp x.op) 66 x.b else !inB x.b 1 6) && (!(if (x.op == (2 : Int)) = true then !atomOk x.s else !emp x.s) && numB x n)) := by
        unfold specB
        rw [c1, c2]
        cases regB (shp x.op) 65 x.a <;> cases regB (shp x.op) 67 x.c <;> cases h11 : (x.op == (11 : Int)) <;> cases h2 : (x.op == (2 : Int)) <;> simp [bne, h11, h2]
      cases hJ : (if (!regB (shp x.op) 65 x.a) = true then true else if (!regB (shp x.op) 67 x.c) = true then true else if (x.op != (11 : Int)) = true then !regB (shp x.op) 66 x.b else !inB x.b 1 6) with
      | true => exact ⟨h3, head true hJ fun z hz => by rw [hv, hJ]; rfl, k03⟩
      | false =>
        cases hZ : (if (x.op == (2 : Int)) = true then !atomOk x.s else !emp x.s) with
        | true => exact ⟨h3, head false hJ fun z hz => by rw [← hz, hv, hJ, hZ]; rfl, k03⟩
        | false => exact ⟨h4, head false hJ fun z hz => by rw [← hz, hv, hJ, hZ]; simp, kN k03 k4⟩

/-! the same -/
theorem has_eq {op : Int} (h : 1 ≤ op ∧ op ≤ 20) : hasB (shp op) 65 = hasL (shp op) 65 ∧ hasB (shp op) 66 = hasL (shp op) 66 ∧ hasB (shp op) 67 = hasL (shp op) 67 ∧ emp (shp op) = false := by
  rcases op_cases h with rfl | rfl | rfl | rfl | rfl | rfl | rfl | rfl | rfl | rfl | rfl | rfl | rfl | rfl | rfl | rfl | rfl | rfl | rfl | rfl <;> decide +kernel
theorem reg_eq {t : ByteArray} {c v : Int} (h : hasB t c = hasL t c) : regB t c v = ((hasB t c || v == 0) && inB v 0 7) := by
  unfold regB
  rw [h]
  cases hasL t c with
  | true => rfl
  | false =>
    by_cases h : v = 0
    · subst h; rfl
    · simp [h]
theorem implB_eq (x : In) (n : Int) : implB x n = specB x n := by
  unfold implB specB
  cases c1 : inB n 1 200 with
  | false => rfl
  | true =>
    have hn : 1 ≤ n ∧ n ≤ 200 := by unfold inB at c1; simp at c1; omega
    have hw : IntKind.wrap .i64 (n - 1) = n - 1 := w64i (by omega) (by omega)
    rw [Bool.true_and, Bool.true_and]
    by_cases c2 : 1 ≤ x.op ∧ x.op ≤ 20
    · have e2 : inB x.op 1 20 = true := by unfold inB; simp; omega
      rw [e2, Bool.true_and]
      obtain ⟨op, a, b, c, m, s⟩ := x
      simp only at c2 ⊢
      obtain ⟨eA, eB, eC, eE⟩ := has_eq c2
      rw [reg_eq eA, reg_eq eB, reg_eq eC]
      unfold onlyN tailI numB
      simp only [hw, eE]
      have k16 : inB b 1 6 = true → inB b 0 7 = true := fun h => by unfold inB at h ⊢; simp at h ⊢; omega
      have kn : (if decide (m ≥ 0) = true then decide (m < n) else false) = inB m 0 (n - 1) := by
        unfold inB
        by_cases h : m ≥ 0
        · by_cases h2 : m < n
          · simp [h, h2]; omega
          · simp [h, h2]; omega
        · simp [h]
      rw [kn]
      clear eA eB eC eE
      generalize hX : inB a 0 7 = ia
      generalize hY : inB c 0 7 = ic
      rcases op_cases c2 with rfl | rfl | rfl | rfl | rfl | rfl | rfl | rfl | rfl | rfl | rfl | rfl | rfl | rfl | rfl | rfl | rfl | rfl | rfl | rfl
      all_goals
        first
          | rw [show hasB (shp _) 78 = true from by decide +kernel]
          | rw [show hasB (shp _) 78 = false from by decide +kernel]
        first
          | rw [show hasB (shp _) 83 = true from by decide +kernel]
          | rw [show hasB (shp _) 83 = false from by decide +kernel]
        simp only [Int.reduceBEq, if_true, Bool.false_eq_true, if_false, Bool.not_false, Bool.true_and, Bool.true_or, Bool.false_or, Bool.and_true, ↓reduceIte]
        first
          | ac_rfl
          | (cases h16 : inB b 1 6 with
              | true => rw [k16 h16]; simp only [if_true, Bool.and_true, Bool.true_and]; rw [show hasB (shp _) 66 = true from by decide +kernel]; simp only [Bool.true_or, Bool.true_and, Bool.and_true]; ac_rfl
              | false => simp)
    · have e2 : inB x.op 1 20 = false := by
        unfold inB
        simp
        omega
      have e3 : onlyN x = false := by
        unfold onlyN
        rw [shp_out c2, show emp ⟨#[]⟩ = true from by simp [emp]]
        rfl
      rw [e2, e3]
      rfl
end Go.Proofs.Ytnmjhhipbfngkaa.Am
