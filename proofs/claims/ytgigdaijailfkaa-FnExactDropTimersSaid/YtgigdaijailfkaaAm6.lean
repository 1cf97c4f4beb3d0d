/- Values put together, cuts, lengths, appends.
Conditions: the tables tell the program's types. -/
import Derived.Test.YtgigdaijailfkaaAm5
set_option linter.unusedSimpArgs false
set_option linter.unusedVariables false
namespace Go.Proofs.Ytgigdaijailfkaa.Am
open Go Go.RowKit

theorem rep_length (z : List Value) : ∀ n, (rep z n).length = n * z.length
  | 0 => by simp [rep]
  | n + 1 => by simp [rep, rep_length z n, Nat.succ_mul, Nat.add_comm]
theorem rep_get (z : List Value) : ∀ (n j : Nat), j < n * z.length → (rep z n)[j]? = z[j % z.length]?
  | 0, j, h => by simp at h
  | n + 1, j, h => by
    simp only [rep]
    by_cases hj : j < z.length
    · rw [List.getElem?_append_left hj, Nat.mod_eq_of_lt hj]
    · have h2 : j - z.length < n * z.length := by rw [Nat.succ_mul] at h; omega
      rw [List.getElem?_append_right (by omega), rep_get z n _ h2]
      congr 1
      have : j = (j - z.length) + z.length := by omega
      conv => rhs; rw [this]
      simp
theorem zerosArr (z : Array Value) (m j : Nat) (hz : 0 < z.size) (hj : j < m) : ((Array.range m).map (z[· % z.size]!))[j]? = z[j % z.size]? := by
  have h1 : j % z.size < z.size := Nat.mod_lt _ hz
  simp [hj, Array.getElem?_eq_getElem h1, h1]

/-- One part put in place. -/
theorem foldl_set (off : Nat) : ∀ (vs : List Value) (k : Nat) (cs : Array Value), off + k + vs.length ≤ cs.size →
    ((vs.zipIdx k).foldl (fun cs (p : Value × Nat) => cs.setIfInBounds (off + p.2) p.1) cs).size = cs.size ∧
    ∀ n, ((vs.zipIdx k).foldl (fun cs (p : Value × Nat) => cs.setIfInBounds (off + p.2) p.1) cs)[n]? = if off + k ≤ n ∧ n < off + k + vs.length then vs[n - (off + k)]? else cs[n]?
  | [], k, cs, _ => ⟨rfl, fun n => by simp; omega⟩
  | v :: vs, k, cs, h => by
    simp only [List.length_cons] at h
    obtain ⟨h1, h2⟩ := foldl_set off vs (k + 1) (cs.setIfInBounds (off + k) v) (by simp; omega)
    simp only [List.zipIdx_cons, List.foldl_cons]
    refine ⟨by rw [h1]; simp, fun n => ?_⟩
    rw [h2]
    by_cases c1 : n = off + k
    · subst c1
      rw [if_neg (by omega), if_pos (by simp)]
      have : off + k < cs.size := by omega
      simp [this]
    · by_cases c2 : off + (k + 1) ≤ n ∧ n < off + (k + 1) + vs.length
      · rw [if_pos c2, if_pos (by simp; omega)]
        have : n - (off + k) = (n - (off + (k + 1))) + 1 := by omega
        rw [this]
        rfl
      · rw [if_neg c2, if_neg (by simp; omega), Array.getElem?_setIfInBounds_ne (by omega)]

section
variable {P : Program} {base : Nat} {φ : Nat → Nat × Nat} {n : Nat} {w : World}
def Rows2 (P : Program) (base : Nat) (φ : Nat → Nat × Nat) (n : Nat) (w : World) (cs : List Value) (us : Array Value) : Prop :=
  cs.length = us.size ∧ ∀ (j : Nat) (x y : Value), cs[j]? = some x → us[j]? = some y → VR P base φ n w x y
theorem Rows2.put {cs : List Value} {us : Array Value} (h : Rows2 P base φ n w cs us) {v u : Value} (hv : VR P base φ n w v u) (off : Nat) (hf : off + (cells v).length ≤ cs.length) :
    Rows2 P base φ n w (setAt cs off (cells v)) (u.cells.zipIdx.foldl (fun cs (p : Value × Nat) => cs.setIfInBounds (off + p.2) p.1) us) := by
  obtain ⟨hl, hr⟩ := hv.cells_rel
  have hfold : u.cells.zipIdx.foldl (fun cs (p : Value × Nat) => cs.setIfInBounds (off + p.2) p.1) us = (u.cells.toList.zipIdx 0).foldl (fun cs (p : Value × Nat) => cs.setIfInBounds (off + p.2) p.1) us := by
    rw [← Array.foldl_toList]; simp
  rw [hfold]
  obtain ⟨g1, g2⟩ := foldl_set off u.cells.toList 0 us (by simp; rw [← hl, ← h.1]; omega)
  refine ⟨?_, fun j x y hx hy => ?_⟩
  · rw [g1, ← h.1]; simp [setAt]; omega
  · rw [setAt_get hf] at hx
    rw [g2] at hy
    have hl' : u.cells.toList.length = (cells v).length := by simp [hl]
    simp only [Nat.add_zero, hl'] at hy
    split at hx
    · rename_i c
      rw [if_pos c] at hy
      exact hr (j - off) x y hx (by simpa using hy)
    · rename_i c
      rw [if_neg c] at hy
      exact h.2 j x y hx hy
theorem evP_rel {s : Slots} {a : Act} (hs : SR P base φ n w s a) : ∀ {ps : List (Nat × Operand)} {vs : List (Nat × Value)}, evP s ps = some vs →
    vs.length = ps.length ∧ ∀ (j : Nat) (p : Nat × Value) (q : Nat × Operand), vs[j]? = some p → ps[j]? = some q → p.1 = q.1 ∧ VR P base φ n w p.2 (a.eval q.2)
  | [], vs, h => by simp only [evP] at h; injection h with h; subst h; exact ⟨rfl, fun j p q hp _ => by simp at hp⟩
  | (i, x) :: r, vs, h => by
    simp only [evP] at h
    cases h1 : ev s x with
    | none => rw [h1] at h; simp at h
    | some v =>
      cases h2 : evP s r with
      | none => rw [h1, h2] at h; simp at h
      | some vs' =>
        rw [h1, h2] at h
        injection h with h
        subst h
        obtain ⟨hl, hr⟩ := evP_rel hs h2
        refine ⟨by simp [hl], fun j p q hp hq => ?_⟩
        cases j with
        | zero => simp at hp hq; subst hp; subst hq; exact ⟨rfl, ev_rel hs h1⟩
        | succ j => simp only [List.getElem?_cons_succ] at hp hq; exact hr j p q hp hq
end

section
variable {R : Type} {E : Env} {w0 w : World} {φ : Nat → Nat × Nat} {h : AH} {s : Slots} {a : Act} {next : Act → World → Prop} {Q : Exit → Act → World → Prop} {r : R} {c : Value → AH → Option R}
  {rec : Rec} {dst : Option Tmp} {ty : TypeId} {pos : String} {after : Array Edge} {guard : Option (Nat × Bool)}

theorem fillR_sound (sz : Nat) : ∀ (vs : List (Nat × Value)) (us : List (Nat × Value)) (cs : List Value) (ws : Array Value) (out : List Value), fillR sz cs vs = some out → vs.length = us.length →
    (∀ (j : Nat) (p q : Nat × Value), vs[j]? = some p → us[j]? = some q → p.1 = q.1 ∧ VR E.P E.base φ h.length w p.2 q.2) → Rows2 E.P E.base φ h.length w cs ws →
    ∃ o2, Instr.fill (fun i => some (i * sz, sz)) ws us = some o2 ∧ Rows2 E.P E.base φ h.length w out o2
  | [], us, cs, ws, out, hf, hl, hr, hc => by
    have : us = [] := List.eq_nil_of_length_eq_zero (by simpa using hl.symm)
    subst this
    simp only [fillR] at hf
    injection hf with hf
    subst hf
    exact ⟨ws, rfl, hc⟩
  | (i, v) :: vs, [], cs, ws, out, hf, hl, hr, hc => by simp at hl
  | (i, v) :: vs, (i', u) :: us, cs, ws, out, hf, hl, hr, hc => by
    obtain ⟨e, hv⟩ := hr 0 (i, v) (i', u) rfl rfl
    simp only at e
    subst e
    simp only [fillR] at hf
    cases hb : (Nat.beq (cells v).length sz && Nat.ble (i * sz + sz) cs.length) with
    | false => rw [hb] at hf; cases hf
    | true =>
      rw [hb] at hf
      simp only [cond_true] at hf
      simp only [Bool.and_eq_true] at hb
      have e1 := Nat.eq_of_beq_eq_true hb.1
      have e2 := Nat.le_of_ble_eq_true hb.2
      have hput := hc.put hv (i * sz) (by rw [e1]; exact e2)
      obtain ⟨o2, h1, h2⟩ := fillR_sound sz vs us _ _ out hf (by simpa using hl) (fun j p q hp hq => hr (j + 1) p q hp hq) hput
      refine ⟨o2, ?_, h2⟩
      have hcl : (cells v).length = u.cells.size := hv.cells_rel.1
      simp only [Instr.fill]
      rw [if_neg (by have := hc.1; simp; omega)]
      exact h1

theorem fillS_sound {fs : List (Nat × Nat)} {places : Nat → Option (Nat × Nat)} :
    ∀ (vs : List (Nat × Value)) (us : List (Nat × Value)) (cs : List Value) (ws : Array Value) (out : List Value), fillS fs cs vs = some out → fsOk E fs vs = true → vs.length = us.length →
    (∀ (i off t : Nat) j, fs[i]? = some (off, t) → E.ti t = some j → places i = some (off, j.ks.length)) →
    (∀ (j : Nat) (p q : Nat × Value), vs[j]? = some p → us[j]? = some q → p.1 = q.1 ∧ VR E.P E.base φ h.length w p.2 q.2) → Rows2 E.P E.base φ h.length w cs ws →
    ∃ o2, Instr.fill places ws us = some o2 ∧ Rows2 E.P E.base φ h.length w out o2
  | [], us, cs, ws, out, hf, _, hl, _, hr, hc => by
    have : us = [] := List.eq_nil_of_length_eq_zero (by simpa using hl.symm)
    subst this
    simp only [fillS] at hf
    injection hf with hf
    subst hf
    exact ⟨ws, rfl, hc⟩
  | (i, v) :: vs, [], cs, ws, out, hf, _, hl, _, hr, hc => by simp at hl
  | (i, v) :: vs, (i', u) :: us, cs, ws, out, hf, hok, hl, hpl, hr, hc => by
    obtain ⟨e, hv⟩ := hr 0 (i, v) (i', u) rfl rfl
    simp only at e
    subst e
    simp only [fillS] at hf
    simp only [fsOk, Bool.and_eq_true] at hok
    obtain ⟨hok1, hok2⟩ := hok
    cases hfi : fs[i]? with
    | none => rw [hfi] at hf; cases hf
    | some p =>
      obtain ⟨off, t⟩ := p
      rw [hfi] at hf hok1
      simp only at hf hok1
      cases hj : E.ti t with
      | none => rw [hj] at hok1; cases hok1
      | some j =>
        rw [hj] at hok1
        simp only at hok1
        have e1 := Nat.eq_of_beq_eq_true hok1
        cases hb : Nat.ble (off + (cells v).length) cs.length with
        | false => rw [hb] at hf; cases hf
        | true =>
          rw [hb] at hf
          simp only [cond_true] at hf
          have e2 := Nat.le_of_ble_eq_true hb
          have hput := hc.put hv off e2
          obtain ⟨o2, h1, h2⟩ := fillS_sound vs us _ _ out hf hok2 (by simpa using hl) hpl (fun j p q hp hq => hr (j + 1) p q hp hq) hput
          refine ⟨o2, ?_, h2⟩
          have hcl : (cells v).length = u.cells.size := hv.cells_rel.1
          simp only [Instr.fill, hpl i off t j hfi hj]
          rw [if_neg (by have := hc.1; simp; omega)]
          exact h1
end
end Go.Proofs.Ytgigdaijailfkaa.Am
