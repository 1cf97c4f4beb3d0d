/- Whether a term's own fields are right: both ask the same.
Conditions: none. -/
import Derived.Test.YtnmjhhipbfngkaaTm
import Derived.Test.YtnmjhhipbfngkaaEq1
import Derived.Test.YtnmjhhipbfngkaaEq2
import Derived.Test.YtnmjhhipbfngkaaEq3
import Derived.Test.YtnmjhhipbfngkaaEq4
set_option linter.unusedSimpArgs false
set_option linter.unusedVariables false
namespace Go.Proofs.Ytnmjhhipbfngkaa.Am
open Go Go.RowKit

def inB (x a b : Int) : Bool := decide (x ≥ a) && decide (x ≤ b)
theorem in_run {base : Nat} {h : AH} {x a b : Int} : run (Et base) 67 [.int .i64 x, .int .i64 a, .int .i64 b] h = some (.bool (inB x a b), h) := by
  refine r67 ?_
  unfold inB
  by_cases c : x ≥ a
  · exact ifT (decide_eq_true c) (by simp [c])
  · exact ifF (by simpa using c) (by simp [c])
theorem l1In_run {base : Nat} {h : AH} {x a b : Int} : run (Et base) 62 [.int .i64 x, .int .i64 a, .int .i64 b] h = some (.bool (inB x a b), h) := by
  refine r62 ?_
  unfold inB
  by_cases c : x ≥ a
  · exact ifT (decide_eq_true c) (by simp [c])
  · exact ifF (by simpa using c) (by simp [c])
theorem isSmall_run {base : Nat} {h : AH} {x : Int} : run (Et base) 161 [.int .u8 x] h = some (.bool (inB x 97 122), h) := by
  refine r161 ?_
  unfold inB
  by_cases c : x ≥ 97
  · exact ifT (decide_eq_true c) (by simp [c])
  · exact ifF (by simpa using c) (by simp [c])
theorem isDigit_run {base : Nat} {h : AH} {x : Int} : run (Et base) 162 [.int .u8 x] h = some (.bool (inB x 48 57), h) := by
  refine r162 ?_
  unfold inB
  by_cases c : x ≥ 48
  · exact ifT (decide_eq_true c) (by simp [c])
  · exact ifF (by simpa using c) (by simp [c])

def byt (s : ByteArray) (i : Nat) : Int := ((s.data.toList.getD i 0).toNat : Int)
def badAt (s : ByteArray) (i : Nat) : Bool := !inB (byt s i) 97 122 && (((i : Int) == 0) || !inB (byt s i) 48 57)
/-- Is one of the d from i on bad? -/
def anyBad (s : ByteArray) : Nat → Nat → Bool
  | 0, _ => false
  | d + 1, i => badAt s i || anyBad s d (i + 1)
def atomOk (s : ByteArray) : Bool := !anyBad s s.size 0 && inB (s.size : Int) 1 12

theorem implAtom_loop {base : Nat} {h : AH} {s : ByteArray} (hs : s.size ≤ 9223372036854775807) : ∀ (d i : Nat), i + d = s.size →
    loopL (B147_0 base) [some (.string s), some (.int .i64 (i : Int))] h = if anyBad s d i = true then some (1, [some (.bool false)], h) else some (2, [some (.string s)], h) := by
  intro d
  induction d with
  | zero =>
    intro i hi
    rw [loopL_eq, B147_0_eq]
    have : ¬ ((i : Int) < (s.size : Int)) := by omega
    simp [this, anyBad]
  | succ d ih =>
    intro i hi
    have step : B147_0 base [some (.string s), some (.int .i64 (i : Int))] h = if badAt s i = true then some (1, [some (.bool false)], h) else some (0, [some (.string s), some (.int .i64 ((i + 1 : Nat) : Int))], h) := by
      rw [B147_0_eq]
      refine ifT (decide_eq_true (by omega)) ?_
      refine bs (v := .inl ([some (.string s), some (.int .i64 (i : Int)), some (.bool (badAt s i))], h)) ?_ ?_
      · refine ifT ⟨by omega, by omega⟩ ?_
        simp only [Int.toNat_natCast]
        refine bs isSmall_run (bB rfl ?_)
        unfold badAt byt
        cases inB (((s.data.toList.getD i 0).toNat : Nat) : Int) 97 122 with
        | true => exact ifF (by decide) (by simp)
        | false =>
          refine ifT rfl ?_
          by_cases c : ((i : Int) == (0 : Int)) = true
          · exact ifT c (by simp [c])
          · have c' : ((i : Int) == (0 : Int)) = false := by simpa using c
            refine ifF c (ifT ⟨by omega, by omega⟩ (bs isDigit_run (bB rfl ?_)))
            simp [c']
      · refine jn (bT rfl (bI rfl (bB rfl ?_)))
        rw [w64i (by omega) (by omega), show ((i : Int) + 1) = ((i + 1 : Nat) : Int) from by omega]
    rw [loopL_eq, step]
    by_cases c : badAt s i = true
    · simp [c, anyBad]
    · have c' : badAt s i = false := by simpa using c
      simp only [c', Bool.false_eq_true, if_false, Option.bind_some, if_true, anyBad, Bool.false_or]
      exact ih (i + 1) (by omega)
theorem implAtomOk_run {base : Nat} {h : AH} {s : ByteArray} (hs : s.size ≤ 9223372036854775807) : run (Et base) 147 [.string s] h = some (.bool (atomOk s), h) := by
  have e := implAtom_loop (base := base) (h := h) hs s.size 0 (by omega)
  rw [show ((0 : Nat) : Int) = 0 from rfl] at e
  refine r147 ?_
  unfold atomOk
  cases hb : anyBad s s.size 0 with
  | true =>
    rw [hb] at e
    exact bs e (ifT rfl (bB rfl rfl))
  | false =>
    rw [hb] at e
    exact bs e (ifF (by simp) (ifT rfl (bT rfl (bs in_run (bB rfl (by simp))))))


theorem w64b (s : ByteArray) (i : Nat) : IntKind.wrap .i64 ((s.data.toList.getD i 0).toNat : Int) = byt s i := by
  have := (s.data.toList.getD i 0).toNat_lt
  rw [w64i (by omega) (by omega)]
  rfl
theorem specAtom_loop {base : Nat} {h : AH} {s : ByteArray} (hs : s.size ≤ 9223372036854775807) : ∀ (d i : Nat), i + d = s.size →
    loopL (B143_0 base) [some (.string s), some (.int .i64 (i : Int))] h = if anyBad s d i = true then some (1, [some (.bool false)], h) else some (2, [some (.string s)], h) := by
  intro d
  induction d with
  | zero =>
    intro i hi
    rw [loopL_eq, B143_0_eq]
    have : ¬ ((i : Int) < (s.size : Int)) := by omega
    simp [this, anyBad]
  | succ d ih =>
    intro i hi
    have step : B143_0 base [some (.string s), some (.int .i64 (i : Int))] h = if badAt s i = true then some (1, [some (.bool false)], h) else some (0, [some (.string s), some (.int .i64 ((i + 1 : Nat) : Int))], h) := by
      rw [B143_0_eq]
      refine ifT (decide_eq_true (by omega)) (ifT ⟨by omega, by omega⟩ ?_)
      simp only [Int.toNat_natCast, w64b]
      refine bs l1In_run (bB rfl ?_)
      refine bs (v := .inl ([some (.string s), some (.int .i64 (i : Int)), some (.bool (badAt s i))], h)) ?_ ?_
      · unfold badAt
        cases inB (byt s i) 97 122 with
        | true => exact ifF (by decide) (by simp)
        | false =>
          refine ifT rfl ?_
          by_cases c : ((i : Int) == (0 : Int)) = true
          · exact ifT c (by simp [c])
          · have c' : ((i : Int) == (0 : Int)) = false := by simpa using c
            refine ifF c (ifT ⟨by omega, by omega⟩ (bs l1In_run (bB rfl ?_)))
            simp [c']
      · refine jn (bT rfl (bI rfl (bB rfl ?_)))
        rw [w64i (by omega) (by omega), show ((i : Int) + 1) = ((i + 1 : Nat) : Int) from by omega]
    rw [loopL_eq, step]
    by_cases c : badAt s i = true
    · simp [c, anyBad]
    · have c' : badAt s i = false := by simpa using c
      simp only [c', Bool.false_eq_true, if_false, Option.bind_some, if_true, anyBad, Bool.false_or]
      exact ih (i + 1) (by omega)
theorem specAtomOk_run {base : Nat} {h : AH} {s : ByteArray} (hs : s.size ≤ 9223372036854775807) : run (Et base) 143 [.string s] h = some (.bool (atomOk s), h) := by
  have e := specAtom_loop (base := base) (h := h) hs s.size 0 (by omega)
  rw [show ((0 : Nat) : Int) = 0 from rfl] at e
  refine r143 ?_
  unfold atomOk
  cases hb : anyBad s s.size 0 with
  | true =>
    rw [hb] at e
    exact bs e (ifT rfl (bB rfl rfl))
  | false =>
    rw [hb] at e
    exact bs e (ifF (by simp) (ifT rfl (bT rfl (bs l1In_run (bB rfl (by simp))))))

def shB (k n : Int) (s : ByteArray) (m : Nat) : Bool :=
  if (k == (1 : Int)) = true then inB n (-1000000) 1000000 && (s.toList == (⟨#[]⟩ : ByteArray).toList) && (((m : Nat) : Int) == (0 : Int))
  else if (k == (2 : Int)) = true then (n == (0 : Int)) && atomOk s && (((m : Nat) : Int) == (0 : Int))
  else if (k == (3 : Int)) = true then inB n 0 99999 && (s.toList == (⟨#[]⟩ : ByteArray).toList) && (((m : Nat) : Int) == (0 : Int))
  else if (k == (4 : Int)) = true then (n == (0 : Int)) && (s.toList == (⟨#[]⟩ : ByteArray).toList) && decide (((m : Nat) : Int) ≤ (8 : Int))
  else if (k == (5 : Int)) = true then (n == (0 : Int)) && (s.toList == (⟨#[]⟩ : ByteArray).toList) && decide (((m : Nat) : Int) ≤ (20 : Int))
  else if (k == (6 : Int)) = true then (n == (0 : Int)) && decide ((s.size : Int) ≤ (40 : Int)) && (((m : Nat) : Int) == (0 : Int))
  else false
/-- Two questions, one behind the other. -/
theorem an2 {β : Type} {c d : Bool} {x y : Option β} {g : Bool → Option β} (hx : c = true → x = g d) (hy : c = false → y = g false) : (if c = true then x else y) = g (c && d) := by
  cases c with
  | true => rw [if_pos rfl]; simpa using hx rfl
  | false => rw [if_neg (by decide)]; simpa using hy rfl
theorem sw {β : Type} {c : Prop} [Decidable c] {a b : Option β} {x y : Bool} {g : Bool → Option β} (ha : c → a = g x) (hb : ¬ c → b = g y) : (if c then a else b) = g (if c then x else y) := by
  by_cases h : c
  · rw [if_pos h, if_pos h]; exact ha h
  · rw [if_neg h, if_neg h]; exact hb h
theorem fieldsOk_run {base : Nat} {h : AH} {k n : Int} {s : ByteArray} {a : Option Addr} {m : Nat} (hs : s.size ≤ 9223372036854775807) (hb : base ≤ h.length) :
    ∃ h', run (Et base) 140 [.agg (termV k n s a m).toArray] h = some (.bool (shB k n s m), h') ∧ KB NoB h h' := by
  obtain ⟨o1, k1, q1⟩ := box_own (base := base) (t := 32) (h := h) (cs := termV k n s a m) hb rfl
  generalize hh1 : h ++ [some (⟨termV k n s a m, 32⟩ : Blk)] = h1' at o1 k1 q1
  refine ⟨h1', r140 (lets fun h1'' eh => ?_), k1⟩
  rw [hh1] at eh
  subst eh
  have c0 := o1.at0 (i := 0) rfl
  have c1 := o1.at0 (i := 1) rfl
  have c2 := o1.at0 (i := 2) rfl
  have c3 := o1.at0 (i := 3) rfl
  let g : Bool → Option (Value × AH) := fun b => some (.bool b, h1'')
  change _ = g (shB k n s m)
  unfold shB
  refine bI c0 (sw (g := g) (fun _ => ?_) (fun _ => sw (g := g) (fun _ => ?_) (fun _ => sw (g := g) (fun _ => ?_) (fun _ => sw (g := g) (fun _ => ?_) (fun _ => sw (g := g) (fun _ => ?_) (fun _ => sw (g := g) (fun _ => ?_) (fun _ => rfl)))))))
  · rw [Bool.and_assoc]
    exact bI c1 (bs in_run (bB rfl (an2 (g := g) (fun _ => bT c2 (an2 (g := g) (fun _ => bS c3 rfl) fun _ => rfl)) fun _ => rfl)))
  · rw [Bool.and_assoc]
    exact bI c1 (an2 (g := g) (fun _ => bT c2 (bs (implAtomOk_run hs) (bB rfl (an2 (g := g) (fun _ => bS c3 rfl) fun _ => rfl)))) fun _ => rfl)
  · rw [Bool.and_assoc]
    exact bI c1 (bs in_run (bB rfl (an2 (g := g) (fun _ => bT c2 (an2 (g := g) (fun _ => bS c3 rfl) fun _ => rfl)) fun _ => rfl)))
  · rw [Bool.and_assoc]
    exact bI c1 (an2 (g := g) (fun _ => bT c2 (an2 (g := g) (fun _ => bS c3 rfl) fun _ => rfl)) fun _ => rfl)
  · rw [Bool.and_assoc]
    exact bI c1 (an2 (g := g) (fun _ => bT c2 (an2 (g := g) (fun _ => bS c3 rfl) fun _ => rfl)) fun _ => rfl)
  · rw [Bool.and_assoc]
    exact bI c1 (an2 (g := g) (fun _ => bT c2 (an2 (g := g) (fun _ => bS c3 rfl) fun _ => rfl)) fun _ => rfl)
theorem l1Shape_run {base : Nat} {h : AH} {k n : Int} {s : ByteArray} {a : Option Addr} {m : Nat} (hs : s.size ≤ 9223372036854775807) (hb : base ≤ h.length) :
    ∃ h', run (Et base) 139 [.agg (termV k n s a m).toArray] h = some (.bool (shB k n s m), h') ∧ KB NoB h h' := by
  obtain ⟨o1, k1, q1⟩ := box_own (base := base) (t := 32) (h := h) (cs := termV k n s a m) hb rfl
  generalize hh1 : h ++ [some (⟨termV k n s a m, 32⟩ : Blk)] = h1' at o1 k1 q1
  refine ⟨h1', r139 (lets fun h1'' eh => ?_), k1⟩
  rw [hh1] at eh
  subst eh
  have c0 := o1.at0 (i := 0) rfl
  have c1 := o1.at0 (i := 1) rfl
  have c2 := o1.at0 (i := 2) rfl
  have c3 := o1.at0 (i := 3) rfl
  let g : Bool → Option (Value × AH) := fun b => some (.bool b, h1'')
  change _ = g (shB k n s m)
  unfold shB
  refine bS c3 (bI c0 (sw (g := g) (fun _ => ?_) (fun _ => sw (g := g) (fun _ => ?_) (fun _ => sw (g := g) (fun _ => ?_) (fun _ => sw (g := g) (fun _ => ?_) (fun _ => sw (g := g) (fun _ => ?_) (fun _ => sw (g := g) (fun _ => ?_) (fun _ => rfl))))))))
  · rw [Bool.and_assoc]
    exact bI c1 (bs l1In_run (bB rfl (an2 (g := g) (fun _ => bT c2 (an2 (g := g) (fun _ => rfl) fun _ => rfl)) fun _ => rfl)))
  · rw [Bool.and_comm (n == 0), Bool.and_assoc]
    exact bT c2 (bs (specAtomOk_run hs) (bB rfl (an2 (g := g) (fun _ => bI c1 (an2 (g := g) (fun _ => rfl) fun _ => rfl)) fun _ => rfl)))
  · rw [Bool.and_assoc]
    exact bI c1 (bs l1In_run (bB rfl (an2 (g := g) (fun _ => bT c2 (an2 (g := g) (fun _ => rfl) fun _ => rfl)) fun _ => rfl)))
  · rw [Bool.and_assoc]
    exact bI c1 (an2 (g := g) (fun _ => bT c2 (an2 (g := g) (fun _ => rfl) fun _ => rfl)) fun _ => rfl)
  · rw [Bool.and_assoc]
    exact bI c1 (an2 (g := g) (fun _ => bT c2 (an2 (g := g) (fun _ => rfl) fun _ => rfl)) fun _ => rfl)
  · rw [Bool.and_assoc]
    exact bI c1 (an2 (g := g) (fun _ => bT c2 (an2 (g := g) (fun _ => rfl) fun _ => rfl)) fun _ => rfl)
end Go.Proofs.Ytnmjhhipbfngkaa.Am
