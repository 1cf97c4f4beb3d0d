/- Which operations leave the heap alone, and what they look at.
Conditions: none. -/
import Derived.Test.YtgigdaijailfkaaAm13
set_option linter.unusedSimpArgs false
set_option linter.unusedVariables false
namespace Go.Proofs.Ytgigdaijailfkaa.Am
open Go Go.RowKit

theorem pureC {R : Type} (E : Env) (rec : Rec) (o : Op) (s : Slots) (h g : AH) (c : Value → AH → Option R) (hc : cl o = .pure) : exOp E rec o s h c = exOp E rec o s g (fun v _ => c v h) := by
  cases o <;> simp only [exOp] <;> try rfl
  case load => simp [cl] at hc
  case alloc => simp [cl] at hc
  case box => simp [cl] at hc
  case buildSlice => simp [cl] at hc
  case makeSlice => simp [cl] at hc
  case store => simp [cl] at hc
  case convert src dst x =>
    have hq : Nat.beq dst 9 = false := by
      cases hq : Nat.beq dst 9 with
      | false => rfl
      | true => simp [cl, hq] at hc
    simp only [hq, Bool.false_and, cond_false]
  case slice t x lo hi mx =>
    cases mx with
    | some m => rfl
    | none =>
      cases lo with
      | some l => simp [cl] at hc
      | none =>
        simp only [bound]
        split
        · rfl
        · split
          · split
            · split
              · rename_i hq _
                injection hq with hq
                subst hq
                have e : ∀ g ad t, okTy E.base g ad t (Int.toNat 0) = true := fun g ad t => rfl
                simp only [e]
              · rfl
            · rfl
          · rfl
        · rfl
  case call cc =>
    obtain ⟨callee, xs, ts⟩ := cc
    cases callee with
    | invoke => simp [cl] at hc
    | value => simp [cl] at hc
    | builtin b =>
      simp only
      split
      · cases b <;> first | (simp [cl] at hc; done) | skip
        · simp only [exBuiltin, exLen]
        · rfl
        · rfl
      · rfl

theorem pure_heap {E : Env} {rec : Rec} {o : Op} {s : Slots} {h h' : AH} {v : Value} (hc : cl o = .pure) (hx : exOp E rec o s h (fun v h => some (v, h)) = some (v, h')) :
    h' = h ∧ ∀ g, exOp E rec o s g (fun v h => some (v, h)) = some (v, g) := by
  have key : ∀ g, ∃ p2, exOp E rec o s g (fun v h => some (v, h)) = some (v, p2) ∧ h' = h ∧ p2 = g := by
    intro g
    rw [pureC E rec o s h g _ hc, exOp_nat] at hx
    cases hp : exOp E rec o s g (fun v h => some (v, h)) with
    | none => rw [hp] at hx; cases hx
    | some p =>
      obtain ⟨p1, p2⟩ := p
      rw [hp] at hx
      simp only [Option.bind_some] at hx
      injection hx with hx
      injection hx with h1 h2
      subst h1
      refine ⟨p2, rfl, h2.symm, ?_⟩
      have := hp
      rw [pureC E rec o s g g _ hc, exOp_nat, hp] at this
      simp only [Option.bind_some] at this
      injection this with this
      injection this with _ h3
      exact h3.symm
  obtain ⟨_, _, h1, _⟩ := key h
  refine ⟨h1, fun g => ?_⟩
  obtain ⟨p2, h2, _, h3⟩ := key g
  rw [h2, h3]

theorem same_trans {a b c : AH} {x o n : Nat} (h : same a b x o n) (k : same b c x o n) : same a c x o n := ⟨fun j hj => (h.1 j hj).trans (k.1 j hj), h.2.trans k.2⟩
theorem same_refl (a : AH) (x o n : Nat) : same a a x o n := ⟨fun _ _ => rfl, rfl⟩
theorem same_symm {a b : AH} {x o n : Nat} (h : same a b x o n) : same b a x o n := ⟨fun j hj => (h.1 j hj).symm, h.2.symm⟩

theorem viewMany_congr {R : Type} {at1 at2 : Nat → Option Value} : ∀ (ks : List K) (o : Nat) (c : List Value → Option R), (∀ j, j < ks.length → at1 (o + j) = at2 (o + j)) → viewMany at1 o ks c = viewMany at2 o ks c
  | [], _, _, _ => rfl
  | k :: ks, o, c, h => by
    simp only [viewMany]
    rw [show at1 o = at2 o from h 0 (by simp)]
    congr 1
    funext v
    exact viewMany_congr ks (o + 1) _ fun j hj => by
      have := h (j + 1) (by simp; omega)
      rw [show o + 1 + j = o + (j + 1) from by omega]; exact this

theorem load_congr {R : Type} {E : Env} {t : Nat} {ti : TI} (ht : E.ti t = some ti) {h g : AH} {b o : Nat} (c : Value → Option R) (hs : same h g b o ti.ks.length) : load E t h b o c = load E t g b o c := by
  unfold load
  rw [ht]
  simp only
  cases ti.agg with
  | true => exact viewMany_congr _ _ _ hs.1
  | false =>
    simp only
    split
    · rename_i k hk
      have := hs.1 0 (by rw [hk]; simp)
      rw [Nat.add_zero] at this
      rw [this]
    · rfl

theorem okTy_congr {base : Nat} {h g : AH} {ad : Addr} {t l : Nat} (hs : (hget h ad.block).map (·.ty) = (hget g ad.block).map (·.ty)) : okTy base h (some ad) t l = okTy base g (some ad) t l := by
  unfold okTy
  congr 1
  simp only
  congr 1
  cases hh : hget h ad.block <;> cases hg : hget g ad.block <;> rw [hh, hg] at hs <;> simp at hs
  simp only [hs]

theorem readC {R : Type} {E : Env} {rec : Rec} {o : Op} {s : Slots} {h g : AH} {ra : Option Addr × Nat} (c : Value → AH → Option R) (hc : cl o = .read) (hr : readAt E s o = some ra) (hs : sameA h g ra.1 ra.2) :
    exOp E rec o s h c = exOp E rec o s g (fun v _ => c v h) := by
  cases o <;> first | (simp [cl] at hc; done) | (simp only [cl] at hc; revert hc; cases Nat.beq _ 9 <;> (intro hc; cases hc); done) | skip
  case load t a =>
    simp only [exOp]
    simp only [readAt] at hr
    split at hr
    · rename_i p ti h1 h2
      injection hr with hr
      subst hr
      rw [h1]
      cases p with
      | none => rfl
      | some ad => exact load_congr h2 _ (hs ad rfl)
    · cases hr
  case slice t x lo hi mx =>
    cases mx with
    | some m => rfl
    | none =>
      simp only [exOp]
      simp only [readAt] at hr
      split at hr
      · rename_i ad n c0 h1
        injection hr with hr
        subst hr
        rw [h1]
        simp only
        have e : ∀ t l, okTy E.base h ad t l = okTy E.base g ad t l := fun t l => by
          cases ad with
          | none => rfl
          | some ad => exact okTy_congr (hs ad rfl).2
        simp only [e]
      · rename_i v h1
        rw [h1]
      · cases hr
  case call cc =>
    obtain ⟨callee, xs, ts⟩ := cc
    cases callee with
    | builtin b => cases b <;> simp [cl] at hc
    | _ => simp [cl] at hc

theorem read_heap {E : Env} {rec : Rec} {o : Op} {s : Slots} {h h' : AH} {v : Value} {ra : Option Addr × Nat} (hc : cl o = .read) (hr : readAt E s o = some ra) (hx : exOp E rec o s h (fun v h => some (v, h)) = some (v, h')) :
    h' = h ∧ ∀ g, sameA h g ra.1 ra.2 → exOp E rec o s g (fun v h => some (v, h)) = some (v, g) := by
  have key : ∀ g, sameA h g ra.1 ra.2 → ∃ p2, exOp E rec o s g (fun v h => some (v, h)) = some (v, p2) ∧ h' = h ∧ p2 = g := by
    intro g hs
    rw [readC _ hc hr hs, exOp_nat] at hx
    cases hp : exOp E rec o s g (fun v h => some (v, h)) with
    | none => rw [hp] at hx; cases hx
    | some p =>
      obtain ⟨p1, p2⟩ := p
      rw [hp] at hx
      simp only [Option.bind_some] at hx
      injection hx with hx
      injection hx with h1 h2
      subst h1
      refine ⟨p2, rfl, h2.symm, ?_⟩
      have := hp
      rw [readC _ hc hr (fun ad _ => same_refl g ad.block ad.off ra.2), exOp_nat, hp] at this
      simp only [Option.bind_some] at this
      injection this with this
      injection this with _ h3
      exact h3.symm
  obtain ⟨_, _, h1, _⟩ := key h fun _ _ => same_refl ..
  refine ⟨h1, fun g hs => ?_⟩
  obtain ⟨p2, h2, _, h3⟩ := key g hs
  rw [h2, h3]

theorem fresh_heap {E : Env} {rec : Rec} {o : Op} {s : Slots} {h h' : AH} {v : Value} (hc : cl o = .fresh) (hx : exOp E rec o s h (fun v h => some (v, h)) = some (v, h')) : ∃ k, h' = h ++ [some k] := by
  cases o <;> first | (simp [cl] at hc; done) | (simp only [cl] at hc; revert hc; cases Nat.beq _ 9 <;> (intro hc; cases hc); done) | skip
  case alloc t =>
    simp only [exOp] at hx
    split at hx
    · injection hx with hx; injection hx with _ hx; exact ⟨_, hx.symm⟩
    · cases hx
  case box t x =>
    simp only [exOp] at hx
    split at hx
    · split at hx
      · rename_i i _
        cases hb : Nat.beq (cells _).length i.ks.length with
        | false => rw [hb] at hx; cases hx
        | true => rw [hb] at hx; injection hx with hx; injection hx with _ hx; exact ⟨_, hx.symm⟩
      · cases hx
    · cases hx
  case buildSlice t n ps =>
    simp only [exOp] at hx
    split at hx
    · split at hx
      · rename_i vs i _ _ _ j _
        cases hb : (isSl i && Nat.blt 0 j.ks.length && Nat.ble (n * j.ks.length) 16777216) with
        | false => rw [hb] at hx; cases hx
        | true =>
          rw [hb] at hx
          simp only [cond_true] at hx
          split at hx
          · injection hx with hx; injection hx with _ hx; exact ⟨_, hx.symm⟩
          · cases hx
      · cases hx
    · cases hx
  case makeSlice t l m =>
    simp only [exOp] at hx
    split at hx
    · split at hx
      · rename_i i _ _ _ _ j _
        cases hb : (!(isSl i && Nat.blt 0 j.ks.length)) with
        | true => rw [hb] at hx; cases hx
        | false =>
          rw [hb] at hx
          simp only [cond_false] at hx
          split at hx
          · injection hx with hx; injection hx with _ hx; exact ⟨_, hx.symm⟩
          · cases hx
      · cases hx
    · cases hx
  case slice t x lo hi mx => cases lo <;> simp [cl] at hc
  case call cc =>
    obtain ⟨callee, xs, ts⟩ := cc
    cases callee with
    | builtin b => cases b <;> simp [cl] at hc
    | _ => simp [cl] at hc
end Go.Proofs.Ytgigdaijailfkaa.Am
