/- Builtins and calls.
Conditions: the tables tell the program's types. -/
import Derived.Test.YtgigdaijailfkaaAm8
set_option linter.unusedSimpArgs false
set_option linter.unusedVariables false
namespace Go.Proofs.Ytgigdaijailfkaa.Am
open Go Go.RowKit

section
variable {R : Type} {E : Env} {w0 w : World} {φ : Nat → Nat × Nat} {h : AH} {s : Slots} {a : Act} {next : Act → World → Prop} {Q : Exit → Act → World → Prop} {r : R} {c : Value → AH → Option R}
  {rec : Rec} {dst : Option Tmp} {ty : TypeId} {pos : String} {after : Array Edge} {guard : Option (Nat × Bool)}

/-- A block is given up. -/
theorem HR.kill (hh : HR E.P E.base w0 φ h w) (b : Nat) : HR E.P E.base w0 φ (h.set b none) w where
  below := hh.below
  blk := fun i k hi => by
    by_cases e : b = i
    · subst e
      by_cases hb : b < h.length
      · rw [hget_set_self hb] at hi; cases hi
      · have := hget_lt hi; simp at this; omega
    · rw [hget_set_ne e] at hi
      obtain ⟨cs, fr, g1, g2, g3⟩ := hh.blk i k hi
      exact ⟨cs, fr, g1, fun j v hj => by
        obtain ⟨u, hu, hv⟩ := g2 j v hj
        exact ⟨u, hu, hv.mono (fun _ _ => rfl) (by simp) (ShapeLe.refl _)⟩, g3⟩
  inj := fun i j k l hi hj e => by
    have live : ∀ {x y}, hget (h.set b none) x = some y → hget h x = some y := by
      intro x y hx
      by_cases e : b = x
      · subst e
        by_cases hb : b < h.length
        · rw [hget_set_self hb] at hx; cases hx
        · have := hget_lt hx; simp at this; omega
      · rw [hget_set_ne e] at hx; exact hx
    exact hh.inj i j k l (live hi) (live hj) e
  lo := hh.lo
  len := by simpa using hh.len
  bw := hh.bw
theorem kill_live {h : AH} {b x : Nat} {y : Blk} (hx : hget (h.set b none) x = some y) : hget h x = some y ∧ b ≠ x := by
  by_cases e : b = x
  · subst e
    by_cases hb : b < h.length
    · rw [hget_set_self hb] at hx; cases hx
    · have := hget_lt hx; simp at this; omega
  · rw [hget_set_ne e] at hx; exact ⟨hx, e⟩
theorem Ext.kill (φ : Nat → Nat × Nat) (h : AH) (w : World) (b : Nat) : Ext φ h w φ (h.set b none) w :=
  ⟨by simp, fun _ _ => rfl, fun i k hi _ => ⟨i, k, (kill_live hi).1, rfl⟩, fun _ _ _ => rfl, Nat.le_refl _, ShapeLe.refl _⟩

theorem args_one (hs : SR E.P E.base φ h.length w s a) {xs : Array Operand} {v : Value} (hev : evs s xs.toList = some [v]) : ∃ x, xs = #[x] ∧ VR E.P E.base φ h.length w v (a.eval x) := by
  obtain ⟨hl, hr⟩ := evs_rel hs hev
  obtain ⟨xs⟩ := xs
  simp only at hl hr
  match xs, hl with
  | [x], _ => exact ⟨x, rfl, hr 0 v (a.eval x) rfl rfl⟩
theorem args_two (hs : SR E.P E.base φ h.length w s a) {xs : Array Operand} {v v2 : Value} (hev : evs s xs.toList = some [v, v2]) : ∃ x x2, xs = #[x, x2] ∧ VR E.P E.base φ h.length w v (a.eval x) ∧ VR E.P E.base φ h.length w v2 (a.eval x2) := by
  obtain ⟨hl, hr⟩ := evs_rel hs hev
  obtain ⟨xs⟩ := xs
  simp only at hl hr
  match xs, hl with
  | [x, x2], _ => exact ⟨x, x2, rfl, hr 0 v (a.eval x) rfl rfl, hr 1 v2 (a.eval x2) rfl rfl⟩
theorem arr_of {α : Type} {ts : Array α} {l : List α} (h : ts.toList = l) : ts = l.toArray := by
  rw [← h]
theorem op_len (hE : EnvOk E) (xs : Array Operand) (ts : Array TypeId) (vs : List Value) (hev : evs s xs.toList = some vs) (hx : exLen E ts.toList vs h c = some r) (hs : SR E.P E.base φ h.length w s a) (hh : HR E.P E.base w0 φ h w) (hn : Cont E w0 φ h w dst a next c r) :
    (⟨dst, .call { callee := .builtin .len, args := xs, argTypes := ts }, ty, pos, after, guard⟩ : Oper).wp E.P a w next Q := by
  unfold exLen at hx
  split at hx
  · rename_i v t ht
    obtain ⟨x, rfl, hv⟩ := args_one hs hev
    obtain rfl := arr_of ht
    split at hx
    · rename_i i hi
      split at hx
      · rename_i ad n c0
        cases hb : isSl i with
        | false => rw [hb] at hx; cases hx
        | true =>
          rw [hb] at hx
          simp only [cond_true] at hx
          obtain ⟨a', c', e, hm, _⟩ := hv.slice_inv
          have hu := (hE.ti t i hi).slice hb
          exact done_pure (o := ⟨dst, .call { callee := .builtin .len, args := #[x], argTypes := #[t] }, ty, pos, after, guard⟩) hn hh hx (.int _ _) (by
            simp [execOp, resolve, invoke, builtin, Builtin.len_, e, TFact.under hu, goInt])
      · rename_i str
        cases hb : isK .str i with
        | false => rw [hb] at hx; cases hx
        | true =>
          rw [hb] at hx
          simp only [cond_true] at hx
          have e := hv.str_inv
          have hu := (hE.ti t i hi).str hb
          exact done_pure (o := ⟨dst, .call { callee := .builtin .len, args := #[x], argTypes := #[t] }, ty, pos, after, guard⟩) hn hh hx (.int _ _) (by
            simp [execOp, resolve, invoke, builtin, Builtin.len_, e, TFact.under hu, goInt])
      · cases hx
    · cases hx
  · cases hx

theorem max_run (w : World) : ∀ (vs us : List Value) (v u : Value) (cc : Value → Option R), maxV v vs cc = some r → vs.length = us.length → (∀ (i : Nat) (x y : Value), vs[i]? = some x → us[i]? = some y → VR E.P E.base φ h.length w x y) →
    VR E.P E.base φ h.length w v u → ∃ z, cc z = some r ∧ ∃ z', VR E.P E.base φ h.length w z z' ∧ (us.foldlM Builtin.max2 u).run E.P w = .ok z' w
  | [], us, v, u, cc, hx, hl, hr, hv => by
    have : us = [] := List.eq_nil_of_length_eq_zero (by simpa using hl.symm)
    subst this
    cases v <;> (simp only [maxV] at hx; exact ⟨_, hx, u, hv, by simp⟩)
  | x :: vs, [], v, u, cc, hx, hl, hr, hv => by simp at hl
  | x :: vs, y :: us, v, u, cc, hx, hl, hr, hv => by
    have hxy := hr 0 x y rfl rfl
    simp only [maxV] at hx
    split at hx
    · rename_i k m k' n
      have e3 := hv.int_inv
      have e4 := hxy.int_inv
      subst e3; subst e4
      obtain ⟨z, h1, z', h2, h3⟩ := max_run w vs us _ (.int k (if n > m then n else m)) cc hx (by simpa using hl) (fun i p q hp hq => hr (i + 1) p q hp hq) (.int _ _)
      exact ⟨z, h1, z', h2, by simp only [List.foldlM_cons, Sem.run_bind, Builtin.max2, Sem.run_pure, Result.andThen_ok]; exact h3⟩
    · cases hx
theorem min_run (w : World) : ∀ (vs us : List Value) (v u : Value) (cc : Value → Option R), minV v vs cc = some r → vs.length = us.length → (∀ (i : Nat) (x y : Value), vs[i]? = some x → us[i]? = some y → VR E.P E.base φ h.length w x y) →
    VR E.P E.base φ h.length w v u → ∃ z, cc z = some r ∧ ∃ z', VR E.P E.base φ h.length w z z' ∧ (us.foldlM Builtin.min2 u).run E.P w = .ok z' w
  | [], us, v, u, cc, hx, hl, hr, hv => by
    have : us = [] := List.eq_nil_of_length_eq_zero (by simpa using hl.symm)
    subst this
    cases v <;> (simp only [minV] at hx; exact ⟨_, hx, u, hv, by simp⟩)
  | x :: vs, [], v, u, cc, hx, hl, hr, hv => by simp at hl
  | x :: vs, y :: us, v, u, cc, hx, hl, hr, hv => by
    have hxy := hr 0 x y rfl rfl
    simp only [minV] at hx
    split at hx
    · rename_i k m k' n
      have e3 := hv.int_inv
      have e4 := hxy.int_inv
      subst e3; subst e4
      obtain ⟨z, h1, z', h2, h3⟩ := min_run w vs us _ (.int k (if n < m then n else m)) cc hx (by simpa using hl) (fun i p q hp hq => hr (i + 1) p q hp hq) (.int _ _)
      exact ⟨z, h1, z', h2, by simp only [List.foldlM_cons, Sem.run_bind, Builtin.min2, Sem.run_pure, Result.andThen_ok]; exact h3⟩
    · cases hx
end
end Go.Proofs.Ytgigdaijailfkaa.Am
