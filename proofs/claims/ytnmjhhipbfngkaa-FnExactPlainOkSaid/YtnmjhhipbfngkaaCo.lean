/- Is an instruction right: what the program and the reference find, and that it is the same.
Conditions: none. -/
import Derived.Test.YtnmjhhipbfngkaaIn
import Derived.Test.YtnmjhhipbfngkaaOk
import Derived.Test.YtnmjhhipbfngkaaEq1
import Derived.Test.YtnmjhhipbfngkaaEq2
import Derived.Test.YtnmjhhipbfngkaaEq3
import Derived.Test.YtnmjhhipbfngkaaEq4
set_option linter.unusedSimpArgs false
set_option linter.unusedVariables false
namespace Go.Proofs.Ytnmjhhipbfngkaa.Am
open Go Go.RowKit

theorem itB {c : Bool} {A B : Option (Value × AH)} {x y : Bool} {h : AH} (hA : A = some (.bool x, h)) (hB : B = some (.bool y, h)) : (if c = true then A else B) = some (.bool (if c = true then x else y), h) := by
  cases c
  · rw [if_neg (by decide), if_neg (by decide)]; exact hB
  · rw [if_pos rfl, if_pos rfl]; exact hA
theorem itJ {β : Type} {c : Bool} {A B : Option (Sum (Slots × AH) β)} (s : Bool → Slots) {x y : Bool} {h : AH} (hA : A = some (.inl (s x, h))) (hB : B = some (.inl (s y, h))) : (if c = true then A else B) = some (.inl (s (if c = true then x else y), h)) := by
  cases c
  · rw [if_neg (by decide), if_neg (by decide)]; exact hB
  · rw [if_pos rfl, if_pos rfl]; exact hA
theorem orZ {β : Type} {b : Bool} {y : Option Value} {z : Int} (hy : y = some (.int .i64 z)) {T F r : Option β} (hT : (b || z == 0) = true → T = r) (hF : (b || z == 0) = false → F = r) :
    (if b = true then T else (y.bind (getI .i64)).bind fun n => if (n == (0 : Int)) = true then T else F) = r := by
  cases b with
  | true => exact ifT rfl (hT rfl)
  | false =>
    refine ifF (by decide) (bI hy ?_)
    cases hz : z == 0 with
    | true => exact ifT rfl (hT (by rw [hz]; rfl))
    | false => exact ifF (by decide) (hF (by rw [hz]; rfl))

/-! what an op names -/
def shp (op : Int) : ByteArray :=
  if op = 1 then ⟨#[65, 78]⟩ else if op = 2 then ⟨#[65, 83]⟩ else if op = 3 ∨ op = 7 ∨ op = 8 ∨ op = 13 then ⟨#[65, 66]⟩ else if op = 4 ∨ op = 6 ∨ op = 10 ∨ op = 11 ∨ op = 16 then ⟨#[65, 66, 78]⟩
  else if op = 5 ∨ op = 9 then ⟨#[65, 66, 67]⟩ else if op = 12 then ⟨#[78]⟩ else if op = 14 ∨ op = 15 ∨ op = 17 ∨ op = 18 ∨ op = 19 ∨ op = 20 then ⟨#[65]⟩ else ⟨#[]⟩
theorem op_cases {op : Int} (h : 1 ≤ op ∧ op ≤ 20) : op = 1 ∨ op = 2 ∨ op = 3 ∨ op = 4 ∨ op = 5 ∨ op = 6 ∨ op = 7 ∨ op = 8 ∨ op = 9 ∨ op = 10 ∨ op = 11 ∨ op = 12 ∨ op = 13 ∨ op = 14 ∨ op = 15 ∨ op = 16 ∨ op = 17 ∨ op = 18 ∨ op = 19 ∨ op = 20 := by omega
theorem shp_out {op : Int} (h : ¬ (1 ≤ op ∧ op ≤ 20)) : shp op = ⟨#[]⟩ := by
  unfold shp
  rw [if_neg (by omega), if_neg (by omega), if_neg (by omega), if_neg (by omega), if_neg (by omega), if_neg (by omega), if_neg (by omega)]
theorem shapeOf_run {base : Nat} {h : AH} {op : Int} : run (Et base) 158 [.int .i64 op] h = some (.string (shp op), h) := by
  by_cases c : 1 ≤ op ∧ op ≤ 20
  · rcases op_cases c with rfl | rfl | rfl | rfl | rfl | rfl | rfl | rfl | rfl | rfl | rfl | rfl | rfl | rfl | rfl | rfl | rfl | rfl | rfl | rfl <;> exact r158 rfl
  · have ne : ∀ k : Int, 1 ≤ k → k ≤ 20 → (op == k) = false := fun k h1 h2 => by
      rw [beq_eq_false_iff_ne]; omega
    rw [shp_out c]
    refine r158 ?_
    rw [ne 1 (by decide) (by decide), ne 2 (by decide) (by decide), ne 3 (by decide) (by decide), ne 7 (by decide) (by decide), ne 8 (by decide) (by decide), ne 13 (by decide) (by decide)]
    refine ifF (by decide) (ifF (by decide) (bj _ (ifF (by decide) (ifF (by decide) (ifF (by decide) rfl))) (bI rfl (bB rfl (ifF (by decide) ?_)))))
    rw [ne 4 (by decide) (by decide), ne 6 (by decide) (by decide), ne 10 (by decide) (by decide), ne 11 (by decide) (by decide), ne 16 (by decide) (by decide)]
    refine bj _ (ifF (by decide) (ifF (by decide) (ifF (by decide) (ifF (by decide) rfl)))) (bI rfl (bB rfl (ifF (by decide) ?_)))
    rw [ne 5 (by decide) (by decide), ne 9 (by decide) (by decide)]
    refine bj _ (ifF (by decide) rfl) (bI rfl (bB rfl (ifF (by decide) ?_)))
    rw [ne 12 (by decide) (by decide), ne 14 (by decide) (by decide), ne 15 (by decide) (by decide), ne 17 (by decide) (by decide), ne 18 (by decide) (by decide), ne 19 (by decide) (by decide), ne 20 (by decide) (by decide)]
    exact ifF (by decide) (bj _ (ifF (by decide) (ifF (by decide) (ifF (by decide) (ifF (by decide) (ifF (by decide) rfl))))) (bB rfl (ifF (by decide) rfl)))
def hasB (s : ByteArray) (c : Int) : Bool := decide (firstIdx s (Nat.toUInt8 (Int.toNat c)) ≥ (0 : Int))
theorem has_run {base : Nat} {h : AH} {ad : Addr} {s : ByteArray} {c : Int} (g : Am.cell h ad.block ad.off = some (.string s)) : run (Et base) 159 [.int .u8 c, .pointer (some ad)] h = some (.bool (hasB s c), h) := by
  have e1 : run (Et base) 174 [.string s, .int .u8 c] h = some (.int .i64 (firstIdx s (Nat.toUInt8 (Int.toNat c))), h) := r174 rfl
  have e2 : run (Et base) 160 [.string s, .int .u8 c] h = some (.int .i64 (firstIdx s (Nat.toUInt8 (Int.toNat c))), h) := r160 (bs e1 (bI rfl rfl))
  exact r159 (bT g (bs e2 (bI rfl rfl)))
abbrev emp (s : ByteArray) : Bool := s.toList == (⟨#[]⟩ : ByteArray).toList
def onlyN (x : In) : Bool := !emp (shp x.op) && ((hasB (shp x.op) 65 || x.a == 0) && ((hasB (shp x.op) 66 || x.b == 0) && ((hasB (shp x.op) 67 || x.c == 0) && ((hasB (shp x.op) 78 || x.n == 0) && (hasB (shp x.op) 83 || emp x.s)))))
theorem onlyNamed_run {base : Nat} {h : AH} {x : In} (hb : base ≤ h.length) : ∃ h', run (Et base) 145 [.agg (inV x).toArray] h = some (.bool (onlyN x), h') ∧ KB NoB h h' := by
  obtain ⟨o1, k1, q1⟩ := box_own (base := base) (t := 116) (h := h) (cs := inV x) hb rfl
  generalize hh1 : h ++ [some (⟨inV x, 116⟩ : Blk)] = h1 at o1 k1 q1
  obtain ⟨o2, k2, q2⟩ := box_own (base := base) (t := 9) (h := h1) (cs := [.string (shp x.op)]) (by omega) rfl
  generalize hh2 : h1 ++ [some (⟨[.string (shp x.op)], 9⟩ : Blk)] = h2 at o2 k2 q2
  have o1 := o1.keepN k2
  refine ⟨h2, r145 (lets fun y ey => ?_), kN k1 k2⟩
  rw [hh1] at ey
  rw [ey]
  refine bI ((Own.at0 (i := 0) (v := .int .i64 x.op) (by rw [← hh1]; exact Own.new base _ h _ hb) rfl)) (bs shapeOf_run (bT rfl (nw (show base ≤ h1.length by omega) rfl fun y ey => ?_)))
  rw [hh2] at ey
  rw [ey]
  have hr := fun c => has_run (base := base) (h := h2) (ad := ⟨h1.length, 0, none⟩) (s := shp x.op) (c := c) (o2.at0 (i := 0) rfl)
  refine bT (o2.at0 (i := 0) rfl) ?_
  cases c0 : emp (shp x.op) with
  | true =>
    rw [show onlyN x = false by unfold onlyN; rw [c0]; rfl]
    unfold emp at c0
    rw [c0]
    exact ifF (by decide) rfl
  | false =>
    have c0' := c0
    unfold emp at c0
    rw [c0]
    refine ifT rfl (bs (bs (hr 65) (bB rfl rfl)) (bB rfl ?_))
    refine orZ (o1.at0 (i := 1) rfl) (fun c1 => ?_) (fun c1 => by unfold onlyN; rw [c0', c1]; rfl)
    refine bs (bs (hr 66) (bB rfl rfl)) (bB rfl ?_)
    refine orZ (o1.at0 (i := 2) rfl) (fun c2 => ?_) (fun c2 => by unfold onlyN; rw [c0', c1, c2]; rfl)
    refine bs (bs (hr 67) (bB rfl rfl)) (bB rfl ?_)
    refine orZ (o1.at0 (i := 3) rfl) (fun c3 => ?_) (fun c3 => by unfold onlyN; rw [c0', c1, c2, c3]; rfl)
    refine bs (bs (hr 78) (bB rfl rfl)) (bB rfl ?_)
    refine orZ (o1.at0 (i := 4) rfl) (fun c4 => ?_) (fun c4 => by unfold onlyN; rw [c0', c1, c2, c3, c4]; rfl)
    refine bs (bs (hr 83) (bB rfl rfl)) (bB rfl ?_)
    have e : onlyN x = (hasB (shp x.op) 83 || emp x.s) := by unfold onlyN; rw [c0', c1, c2, c3, c4]; rfl
    rw [e]
    cases hasB (shp x.op) 83 with
    | true => exact ifT rfl rfl
    | false => exact ifF (by decide) (bT (o1.at0 (i := 5) rfl) rfl)
def tailI (x : In) (n : Int) : Bool :=
  if (x.op == (1 : Int)) = true then inB x.n (-1000000) 1000000 else if (x.op == (2 : Int)) = true then atomOk x.s else if (x.op == (4 : Int)) = true then (if inB x.n 0 8 = true then decide (IntKind.wrap .i64 (x.b + x.n) ≤ (8 : Int)) else false)
  else if (x.op == (6 : Int)) = true then inB x.n 0 7 else if (x.op == (11 : Int)) = true then (if inB x.b 1 6 = true then inB x.n 0 (IntKind.wrap .i64 (n - 1)) else false)
  else if (if (x.op == (10 : Int)) = true then (x.op == (10 : Int)) else (if (x.op == (12 : Int)) = true then (x.op == (12 : Int)) else (x.op == (16 : Int)))) = true then inB x.n 0 (IntKind.wrap .i64 (n - 1)) else true
def implB (x : In) (n : Int) : Bool := inB n 1 200 && (onlyN x && (inB x.a 0 7 && (inB x.b 0 7 && (inB x.c 0 7 && tailI x n))))
theorem isReg_run {base : Nat} {h : AH} {v : Int} : run (Et base) 146 [.int .i64 v] h = some (.bool (inB v 0 7), h) := r146 (bs in_run (bB rfl rfl))
theorem implInsOk_run {base : Nat} {h : AH} {x : In} {n : Int} (hs : x.s.size ≤ 9223372036854775807) (hb : base ≤ h.length) : ∃ h', run (Et base) 121 [.agg (inV x).toArray, .int .i64 n] h = some (.bool (implB x n), h') ∧ KB NoB h h' := by
  obtain ⟨o1, k1, q1⟩ := box_own (base := base) (t := 116) (h := h) (cs := inV x) hb rfl
  generalize hh1 : h ++ [some (⟨inV x, 116⟩ : Blk)] = h1 at o1 k1 q1
  have e1 := in_run (base := base) (h := h1) (x := n) (a := 1) (b := 200)
  cases c1 : inB n 1 200 with
  | false =>
    rw [c1] at e1
    rw [show implB x n = false by unfold implB; rw [c1]; rfl]
    refine ⟨h1, r121 (lets fun y ey => ?_), k1⟩
    rw [hh1] at ey
    subst ey
    exact bj _ (bs e1 (bB rfl (ifT rfl rfl))) (bI rfl (bs rfl (bB rfl (ifT rfl rfl))))
  | true =>
    rw [c1] at e1
    obtain ⟨h2, e2, k2⟩ := onlyNamed_run (base := base) (h := h1) (x := x) (by omega)
    have o2 := o1.keepN k2
    cases c2 : onlyN x with
    | false =>
      rw [c2] at e2
      rw [show implB x n = false by unfold implB; rw [c1, c2]; rfl]
      refine ⟨h2, r121 (lets fun y ey => ?_), kN k1 k2⟩
      rw [hh1] at ey
      subst ey
      exact bj _ (bs e1 (bB rfl (ifF (by decide) (qi o1 (bs e2 (bB rfl (ifT rfl rfl))))))) (bI rfl (bs rfl (bB rfl (ifT rfl rfl))))
    | true =>
      rw [c2] at e2
      refine ⟨h2, r121 (lets fun y ey => ?_), kN k1 k2⟩
      rw [hh1] at ey
      subst ey
      have ea := isReg_run (base := base) (h := h2) (v := x.a)
      have eb := isReg_run (base := base) (h := h2) (v := x.b)
      have ec := isReg_run (base := base) (h := h2) (v := x.c)
      cases c3 : inB x.a 0 7 with
      | false =>
        rw [c3] at ea
        rw [show implB x n = false by unfold implB; rw [c1, c2, c3]; rfl]
        exact bj _ (bs e1 (bB rfl (ifF (by decide) (qi o1 (bs e2 (bB rfl (ifF (by decide) (bI (o2.at0 (i := 1) rfl) (bs ea (bB rfl (ifT rfl rfl))))))))))) (bI rfl (bs rfl (bB rfl (ifT rfl rfl))))
      | true =>
        rw [c3] at ea
        cases c4 : inB x.b 0 7 with
        | false =>
          rw [c4] at eb
          rw [show implB x n = false by unfold implB; rw [c1, c2, c3, c4]; rfl]
          exact bj _ (bs e1 (bB rfl (ifF (by decide) (qi o1 (bs e2 (bB rfl (ifF (by decide) (bI (o2.at0 (i := 1) rfl) (bs ea (bB rfl (ifF (by decide) (bI (o2.at0 (i := 2) rfl) (bs eb (bB rfl (ifT rfl rfl))))))))))))))) (bI rfl (bs rfl (bB rfl (ifT rfl rfl))))
        | true =>
          rw [c4] at eb
          have ht : implB x n = (inB x.c 0 7 && tailI x n) := by unfold implB; rw [c1, c2, c3, c4]; rfl
          rw [ht]
          refine bj ([some (.int .i64 n), some (.pointer (at0 h.length)), some (.bool (!inB x.c 0 7))], h2) (bs e1 (bB rfl (ifF (by decide) (qi o1 (bs e2 (bB rfl (ifF (by decide) (bI (o2.at0 (i := 1) rfl) (bs ea (bB rfl (ifF (by decide) (bI (o2.at0 (i := 2) rfl) (bs eb (bB rfl (ifF (by decide) (bI (o2.at0 (i := 3) rfl) (bs ec (bB rfl rfl)))))))))))))))))) (bI rfl (bs rfl (bB rfl ?_)))
          cases inB x.c 0 7 with
          | false => exact ifT rfl rfl
          | true =>
            refine ifF (by decide) (bI (o2.at0 (i := 0) rfl) ?_)
            rw [Bool.true_and]
            unfold tailI
            refine itB (bI (o2.at0 (i := 4) rfl) (bs in_run (bB rfl rfl))) (itB (bT (o2.at0 (i := 5) rfl) (bs (implAtomOk_run hs) (bB rfl rfl))) (itB (bI (o2.at0 (i := 4) rfl) (bs in_run (bB rfl (itB (bI (o2.at0 (i := 2) rfl) (bI (o2.at0 (i := 4) rfl) rfl)) rfl)))) (itB (bI (o2.at0 (i := 4) rfl) (bs in_run (bB rfl rfl))) (itB (bI (o2.at0 (i := 2) rfl) (bs in_run (bB rfl (itB (bI (o2.at0 (i := 4) rfl) (bs in_run (bB rfl rfl))) rfl)))) ?_))))
            exact bj _ (itJ (fun b => [some (.int .i64 n), some (.pointer (at0 h.length)), some (.bool b)]) rfl (itJ (fun b => [some (.int .i64 n), some (.pointer (at0 h.length)), some (.bool b)]) rfl rfl)) (bI rfl (bs rfl (bB rfl (itB (bI (o2.at0 (i := 4) rfl) (bs in_run (bB rfl rfl))) rfl))))

/-! the reference -/
def hasF (s : ByteArray) (c : Int) : Nat → Nat → Bool
  | 0, _ => false
  | d + 1, i => if (((s.data.toList.getD i 0).toNat : Int) == c) = true then true else hasF s c d (i + 1)
def hasL (s : ByteArray) (c : Int) : Bool := hasF s c s.size 0
theorem l8Letter_loop {base : Nat} {h : AH} {s : ByteArray} {c : Int} (hs : s.size ≤ 9223372036854775807) : ∀ (d i : Nat), i + d = s.size →
    loopL (B151_0 base) [some (.string s), some (.int .u8 c), some (.int .i64 (i : Int))] h = if hasF s c d i = true then some (1, [some (.bool true)], h) else some (2, [], h) := by
  intro d
  induction d with
  | zero =>
    intro i hi
    refine loop_off (by decide) ?_
    rw [B151_0_eq]
    exact ifF (by simp; omega) rfl
  | succ d ih =>
    intro i hi
    rw [hasF]
    by_cases c1 : (((s.data.toList.getD i 0).toNat : Int) == c) = true
    · rw [if_pos c1, if_pos rfl]
      refine loop_off (by decide) ?_
      rw [B151_0_eq]
      refine ifT (decide_eq_true (by omega)) (ifT ⟨by omega, by omega⟩ ?_)
      simp only [Int.toNat_natCast]
      exact ifT c1 rfl
    · rw [if_neg c1, ← ih (i + 1) (by omega)]
      refine loop_on ?_ rfl
      rw [B151_0_eq]
      refine ifT (decide_eq_true (by omega)) (ifT ⟨by omega, by omega⟩ ?_)
      simp only [Int.toNat_natCast]
      refine ifF c1 ?_
      rw [w64i (n := (i : Int) + 1) (by omega) (by omega)]
      rfl
theorem l8Letter_run {base : Nat} {h : AH} {s : ByteArray} {c : Int} (hs : s.size ≤ 9223372036854775807) : run (Et base) 151 [.string s, .int .u8 c] h = some (.bool (hasL s c), h) := by
  have e := l8Letter_loop (base := base) (h := h) (c := c) hs s.size 0 (by omega)
  rw [show ((0 : Nat) : Int) = 0 from rfl] at e
  refine r151 ?_
  unfold hasL
  cases hb : hasF s c s.size 0 with
  | true => rw [hb] at e; exact bs e (ifT rfl (bB rfl rfl))
  | false => rw [hb] at e; exact bs e (ifF (show ¬ (2 : Nat) = 1 by decide) (ifT rfl rfl))
def regB (s : ByteArray) (c r : Int) : Bool := if (!hasL s c) = true then (r == (0 : Int)) else inB r 0 7
theorem l8Reg_run {base : Nat} {h : AH} {s : ByteArray} {c r : Int} (hs : s.size ≤ 9223372036854775807) : run (Et base) 142 [.string s, .int .u8 c, .int .i64 r] h = some (.bool (regB s c r), h) := by
  refine r142 (bs (l8Letter_run hs) (bB rfl ?_))
  unfold regB
  exact itB rfl (bs l1In_run (bB rfl rfl))
def numB (x : In) (n : Int) : Bool :=
  if (x.op == (1 : Int)) = true then inB x.n (-1000000) 1000000 else if (x.op == (4 : Int)) = true then (if inB x.n 0 8 = true then decide (IntKind.wrap .i64 (x.b + x.n) ≤ (8 : Int)) else false)
  else if (x.op == (6 : Int)) = true then inB x.n 0 7
  else if (if (x.op == (10 : Int)) = true then (x.op == (10 : Int)) else (if (x.op == (11 : Int)) = true then (x.op == (11 : Int)) else (if (x.op == (12 : Int)) = true then (x.op == (12 : Int)) else (x.op == (16 : Int))))) = true then (if decide (x.n ≥ (0 : Int)) = true then decide (x.n < n) else false) else (x.n == (0 : Int))
theorem l8Num_run {base : Nat} {h : AH} {x : In} {n : Int} (hb : base ≤ h.length) : ∃ h', run (Et base) 144 [.agg (inV x).toArray, .int .i64 n] h = some (.bool (numB x n), h') ∧ KB NoB h h' := by
  obtain ⟨o1, k1, q1⟩ := box_own (base := base) (t := 116) (h := h) (cs := inV x) hb rfl
  generalize hh1 : h ++ [some (⟨inV x, 116⟩ : Blk)] = h1 at o1 k1 q1
  refine ⟨h1, r144 (lets fun y ey => ?_), k1⟩
  rw [hh1] at ey
  subst ey
  refine bI (o1.at0 (i := 0) rfl) ?_
  unfold numB
  refine itB (bI (o1.at0 (i := 4) rfl) (bs l1In_run (bB rfl rfl))) (itB (bI (o1.at0 (i := 4) rfl) (bs l1In_run (bB rfl (itB (bI (o1.at0 (i := 2) rfl) (bI (o1.at0 (i := 4) rfl) rfl)) rfl)))) (itB (bI (o1.at0 (i := 4) rfl) (bs l1In_run (bB rfl rfl))) ?_))
  refine bj _ (itJ (fun b => [some (.int .i64 n), some (.pointer (at0 h.length)), some (.bool b)]) rfl (itJ (fun b => [some (.int .i64 n), some (.pointer (at0 h.length)), some (.bool b)]) rfl (itJ (fun b => [some (.int .i64 n), some (.pointer (at0 h.length)), some (.bool b)]) rfl rfl))) (bI rfl (bs rfl (bB rfl ?_)))
  exact itB (bI (o1.at0 (i := 4) rfl) (itB (bI (o1.at0 (i := 4) rfl) rfl) rfl)) (bI (o1.at0 (i := 4) rfl) rfl)
def usesV : List Value := [.string ⟨#[65, 78]⟩, .string ⟨#[65, 83]⟩, .string ⟨#[65, 66]⟩, .string ⟨#[65, 66, 78]⟩, .string ⟨#[65, 66, 67]⟩, .string ⟨#[65, 66, 78]⟩, .string ⟨#[65, 66]⟩, .string ⟨#[65, 66]⟩, .string ⟨#[65, 66, 67]⟩, .string ⟨#[65, 66, 78]⟩, .string ⟨#[65, 66, 78]⟩, .string ⟨#[78]⟩, .string ⟨#[65, 66]⟩, .string ⟨#[65]⟩, .string ⟨#[65]⟩, .string ⟨#[65, 66, 78]⟩, .string ⟨#[65]⟩, .string ⟨#[65]⟩, .string ⟨#[65]⟩, .string ⟨#[65]⟩]
theorem uses_at {op : Int} (h : 1 ≤ op ∧ op ≤ 20) : usesV[Int.toNat (op - 1)]? = some (.string (shp op)) := by
  rcases op_cases h with rfl | rfl | rfl | rfl | rfl | rfl | rfl | rfl | rfl | rfl | rfl | rfl | rfl | rfl | rfl | rfl | rfl | rfl | rfl | rfl <;> rfl
def specB (x : In) (n : Int) : Bool :=
  inB n 1 200 && (inB x.op 1 20 && (regB (shp x.op) 65 x.a && (regB (shp x.op) 67 x.c && ((if (x.op == (11 : Int)) = true then inB x.b 1 6 else regB (shp x.op) 66 x.b) && ((if (x.op == (2 : Int)) = true then atomOk x.s else emp x.s) && numB x n)))))
end Go.Proofs.Ytnmjhhipbfngkaa.Am
