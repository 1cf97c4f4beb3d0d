/- A region in the text's order.
Conditions: the tables tell the program's types; what a called function does is given. -/
import Derived.Test.YtgigdaijailfkaaAm14
set_option linter.unusedSimpArgs false
set_option linter.unusedVariables false
namespace Go.Proofs.Ytgigdaijailfkaa.Am
open Go Go.RowKit

theorem sset_same : ∀ (s : Slots) (d : Nat) (v : Value), sget s d = some v → sset s d (some v) = s
  | [], _, _, h => rfl
  | x :: r, 0, v, h => by simp only [sget] at h; rw [h]; rfl
  | x :: r, d + 1, v, h => by simp only [sset]; rw [sset_same r d v h]

section
variable {P : Program} {base : Nat} {φ : Nat → Nat × Nat} {n : Nat} {w : World} {s : Slots} {a : Act}
/-- What the guard's flag says. -/
def gv (ops : List Oper) (o : Oper) (s : Slots) (b : Bool) : Prop := match o.guard with
  | none => b = true
  | some (j, want) => ∃ d, (ops[j]?).bind (·.dst) = some d ∧ ((∃ x, sget s d = some (.bool x) ∧ b = decide (x = want)) ∨ ((∃ x, sget s d = some (.tuple x)) ∧ b = false))
theorem guarded_some {R : Type} {ops : List Oper} {o : Oper} {yes no : Slots → Option R} {r : R} (h : guarded ops o s yes no = some r) : (gv ops o s true ∧ yes s = some r) ∨ (gv ops o s false ∧ no s = some r) := by
  unfold guarded at h
  unfold gv
  cases hg : o.guard with
  | none => rw [hg] at h; exact .inl ⟨rfl, h⟩
  | some p =>
    obtain ⟨j, want⟩ := p
    rw [hg] at h
    simp only at h ⊢
    cases hd : (ops[j]?).bind (·.dst) with
    | none => rw [hd] at h; cases h
    | some d =>
      rw [hd] at h
      simp only at h
      split at h
      · rename_i b hb
        cases b with
        | true =>
          rw [if_pos rfl, sset_same _ _ _ hb] at h
          cases want with
          | true => exact .inl ⟨⟨d, rfl, .inl ⟨true, hb, rfl⟩⟩, h⟩
          | false => exact .inr ⟨⟨d, rfl, .inl ⟨true, hb, rfl⟩⟩, h⟩
        | false =>
          rw [if_neg (by decide), sset_same _ _ _ hb] at h
          cases want with
          | true => exact .inr ⟨⟨d, rfl, .inl ⟨false, hb, rfl⟩⟩, h⟩
          | false => exact .inl ⟨⟨d, rfl, .inl ⟨false, hb, rfl⟩⟩, h⟩
      · rename_i x hx
        exact .inr ⟨⟨d, rfl, .inr ⟨⟨x, hx⟩, by trivial⟩⟩, h⟩
      · cases h

theorem gv_wanted {ops : Array Oper} {o : Oper} {b : Bool} (hs : SR P base φ n w s a) (h : gv ops.toList o s b) : Region.wanted o (yielded ops a.tmps) = b := by
  unfold gv at h
  unfold Region.wanted
  cases hg : o.guard with
  | none => rw [hg] at h; exact h.symm
  | some p =>
    obtain ⟨j, want⟩ := p
    rw [hg] at h
    simp only at h ⊢
    obtain ⟨d, hd, hor⟩ := h
    have hd' : (ops[j]?).bind (·.dst) = some d := by simpa using hd
    unfold yielded
    rw [hd']
    simp only [Option.bind_some]
    rcases hor with ⟨x, hx, rfl⟩ | ⟨⟨x, hx⟩, rfl⟩
    · have hlt := sget_lt _ _ _ hx
      rw [hs.len] at hlt
      have hv := (hs.get d _ hx).bool_inv
      rw [Array.getD_eq_getD_getElem?, Array.getElem?_eq_getElem hlt] at hv
      rw [Array.getElem?_eq_getElem hlt]
      simp only [Option.getD_some] at hv
      rw [hv]
      cases x <;> cases want <;> rfl
    · have hlt := sget_lt _ _ _ hx
      rw [hs.len] at hlt
      have hv := (hs.get d _ hx)
      rw [Array.getD_eq_getD_getElem?, Array.getElem?_eq_getElem hlt] at hv
      rw [Array.getElem?_eq_getElem hlt]
      simp only [Option.getD_some] at hv
      generalize a.tmps[d] = u at hv ⊢
      cases hv
      cases want <;> rfl
end

section
variable {R : Type} {E : Env} {w0 : World} {Q : Exit → Act → World → Prop} {r : R} {rec : Rec}

theorem exOps_sound (hE : EnvOk E) (hrec : RecOk E w0 rec) (ops : Array Oper) (c : Slots → AH → Option R) : ∀ (l : List Oper) (s : Slots) (h : AH) (a : Act) (w : World) (φ : Nat → Nat × Nat),
    exOps E rec ops.toList l s h c = some r → SR E.P E.base φ h.length w s a → HR E.P E.base w0 φ h w →
    (∀ s' h' φ' a' w', c s' h' = some r → Ext φ h w φ' h' w' → HR E.P E.base w0 φ' h' w' → SR E.P E.base φ' h'.length w' s' a' → Q .normal a' w') → wpList E.P ops Q l a w
  | [], s, h, a, w, φ, hx, hs, hh, hQ => hQ s h φ a w hx (Ext.refl ..) hh hs
  | o :: l, s, h, a, w, φ, hx, hs, hh, hQ => by
    simp only [exOps] at hx
    rcases guarded_some hx with ⟨hg, hx⟩ | ⟨hg, hx⟩
    · have hw := gv_wanted hs hg
      simp only [wpList, hw, if_true]
      refine .inl (op_sound hE hrec o hx hs hh fun v h' φ' u w' hc e1 e2 e3 => ?_)
      exact exOps_sound hE hrec ops c l _ h' _ w' φ' hc ((hs.ext e1).put o.dst e3) e2 fun s2 h2 φ2 a2 w2 q1 q2 q3 q4 => hQ s2 h2 φ2 a2 w2 q1 (e1.trans q2) q3 q4
    · have hw := gv_wanted hs hg
      simp only [wpList, hw]
      exact exOps_sound hE hrec ops c l _ h _ w φ hx (hs.put o.dst undef_rel) hh hQ
end
end Go.Proofs.Ytgigdaijailfkaa.Am
