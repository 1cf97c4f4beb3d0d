/- Operations that only reckon.
Conditions: the tables tell the program's types. -/
import Derived.Test.YtgigdaijailfkaaAm2
import Derived.Laws.Entries
import Derived.Laws.Small
set_option linter.unusedSimpArgs false
set_option linter.unusedVariables false
namespace Go.Proofs.Ytgigdaijailfkaa.Am
open Go Go.RowKit

section
variable {R : Type} {E : Env} {w0 w : World} {φ : Nat → Nat × Nat} {h : AH} {s : Slots} {a : Act} {next : Act → World → Prop} {Q : Exit → Act → World → Prop} {r : R} {c : Value → AH → Option R}
  {rec : Rec} {dst : Option Tmp} {ty : TypeId} {pos : String} {after : Array Edge} {guard : Option (Nat × Bool)}

theorem op_move (x : Operand) (hx : exOp E rec (.move x) s h c = some r) (hs : SR E.P E.base φ h.length w s a) (hh : HR E.P E.base w0 φ h w) (hn : Cont E w0 φ h w dst a next c r) :
    (⟨dst, .move x, ty, pos, after, guard⟩ : Oper).wp E.P a w next Q := by
  simp only [exOp] at hx
  cases hv : ev s x with
  | none => rw [hv] at hx; cases hx
  | some v => rw [hv] at hx; exact done_pure (o := ⟨dst, .move x, ty, pos, after, guard⟩) hn hh hx (ev_rel hs hv) rfl
theorem op_assign (x : Operand) (hx : exOp E rec (.assign x) s h c = some r) (hs : SR E.P E.base φ h.length w s a) (hh : HR E.P E.base w0 φ h w) (hn : Cont E w0 φ h w dst a next c r) :
    (⟨dst, .assign x, ty, pos, after, guard⟩ : Oper).wp E.P a w next Q := by
  simp only [exOp] at hx
  cases hv : ev s x with
  | none => rw [hv] at hx; cases hx
  | some v => rw [hv] at hx; exact done_pure (o := ⟨dst, .assign x, ty, pos, after, guard⟩) hn hh hx (ev_rel hs hv) rfl
theorem op_pick (b x y : Operand) (hx : exOp E rec (.pick b x y) s h c = some r) (hs : SR E.P E.base φ h.length w s a) (hh : HR E.P E.base w0 φ h w) (hn : Cont E w0 φ h w dst a next c r) :
    (⟨dst, .pick b x y, ty, pos, after, guard⟩ : Oper).wp E.P a w next Q := by
  simp only [exOp] at hx
  cases hb : ev s b with
  | none => rw [hb] at hx; cases hx
  | some v =>
    rw [hb] at hx
    cases v with
    | bool t =>
      have hbv := (ev_rel hs hb).bool_inv
      simp only at hx
      cases t with
      | true =>
        rw [if_pos rfl] at hx
        cases hv : ev s x with
        | none => rw [hv] at hx; cases hx
        | some v => rw [hv] at hx; exact done_pure (o := ⟨dst, .pick b x y, ty, pos, after, guard⟩) hn hh hx (ev_rel hs hv) (by simp [execOp, hbv, asBool])
      | false =>
        rw [if_neg (by decide)] at hx
        cases hv : ev s y with
        | none => rw [hv] at hx; cases hx
        | some v => rw [hv] at hx; exact done_pure (o := ⟨dst, .pick b x y, ty, pos, after, guard⟩) hn hh hx (ev_rel hs hv) (by simp [execOp, hbv, asBool])
    | _ => cases hx
theorem op_nil (x : Operand) (hx : exOp E rec (.nilCheck x) s h c = some r) (hs : SR E.P E.base φ h.length w s a) (hh : HR E.P E.base w0 φ h w) (hn : Cont E w0 φ h w dst a next c r) :
    (⟨dst, .nilCheck x, ty, pos, after, guard⟩ : Oper).wp E.P a w next Q := by
  simp only [exOp] at hx
  cases hv : ev s x with
  | none => rw [hv] at hx; cases hx
  | some v =>
    rw [hv] at hx
    have hr := ev_rel hs hv
    split at hx
    · rename_i ad e
      injection e with e
      subst e
      cases ad with
      | none => cases hx
      | some ad =>
        simp only [Option.bind_some] at hx
        obtain ⟨_, _, hu⟩ := hr.ptr_inv
        rw [hu] at hr
        exact done_pure (o := ⟨dst, .nilCheck x, ty, pos, after, guard⟩) hn hh hx hr (by simp [execOp, hu])
    · rename_i f p q e
      injection e with e
      subst e
      generalize hue : a.eval x = u at hr
      cases hr with
      | func _ _ p' _ q' h1 h2 h3 h4 =>
        exact done_pure (o := ⟨dst, .nilCheck x, ty, pos, after, guard⟩) hn hh hx (.func _ _ p' _ q' h1 h2 h3 h4) (by simp [execOp, hue])
    · cases hx

theorem intV_sound {op : BinOp} {k : IntKind} {m n : Int} {t : TypeId} (cc : Value → Option R) (hx : intV op k m n cc = some r) (h1 : op ≠ .shl) (h2 : op ≠ .shr) :
    ∃ v, cc v = some r ∧ (∀ P base φ N w, VR P base φ N w v v) ∧ ∀ w x y, (do eqGuard op t x y (.int k m) (.int k n); binOp op t (.int k m) (.int k n) : Sem Value).run E.P w = .ok v w := by
  have hg : ∀ x y, eqGuard op t x y (.int k m) (.int k n) = pure () := by
    intro x y
    cases op <;> rfl
  cases op <;> simp only [intV] at hx <;> first | (cases hx; done) | skip
  case quo =>
    split at hx
    · cases hx
    · rename_i hz
      exact ⟨_, hx, fun _ _ _ _ _ => .int _ _, fun w x y => by simp [hg, binOp, Op.intDiv, hz]⟩
  case rem =>
    split at hx
    · cases hx
    · rename_i hz
      exact ⟨_, hx, fun _ _ _ _ _ => .int _ _, fun w x y => by simp [hg, binOp, Op.intDiv, hz]⟩
  case add => exact ⟨_, hx, fun _ _ _ _ _ => .int _ _, fun w x y => by simp [hg, binOp, Op.intArith]⟩
  case sub => exact ⟨_, hx, fun _ _ _ _ _ => .int _ _, fun w x y => by simp [hg, binOp, Op.intArith]⟩
  case mul => exact ⟨_, hx, fun _ _ _ _ _ => .int _ _, fun w x y => by simp [hg, binOp, Op.intArith]⟩
  case and => exact ⟨_, hx, fun _ _ _ _ _ => .int _ _, fun w x y => by (simp [hg, binOp]; rfl)⟩
  case or => exact ⟨_, hx, fun _ _ _ _ _ => .int _ _, fun w x y => by (simp [hg, binOp]; rfl)⟩
  case xor => exact ⟨_, hx, fun _ _ _ _ _ => .int _ _, fun w x y => by (simp [hg, binOp]; rfl)⟩
  all_goals exact ⟨_, hx, fun _ _ _ _ _ => .bool _, fun w x y => by simp [hg, binOp, Op.intCmp]⟩

theorem strV_sound {op : BinOp} {m n : ByteArray} {t : TypeId} (cc : Value → Option R) (hx : strV op m n cc = some r) :
    ∃ v, cc v = some r ∧ (∀ P base φ N w, VR P base φ N w v v) ∧ ∀ w x y, (do eqGuard op t x y (.string m) (.string n); binOp op t (.string m) (.string n) : Sem Value).run E.P w = .ok v w := by
  have hg : ∀ x y, eqGuard op t x y (.string m) (.string n) = pure () := by
    intro x y
    cases op <;> rfl
  cases op <;> simp only [strV] at hx <;> first | (cases hx; done) | skip
  case add =>
    split at hx
    · rename_i hz
      have hz' : ¬ (((m.size + n.size : Nat) : Int) > IntKind.i64.max) := by
        simp [IntKind.max, IntKind.bits, IntKind.signed]; omega
      exact ⟨_, hx, fun _ _ _ _ _ => .str _, fun w x y => by
        rw [hg]
        simp only [Sem.run_bind, Sem.run_pure, Result.andThen_ok, binOp, Op.stringOp]
        rw [if_neg hz']; rfl⟩
    · cases hx
  all_goals exact ⟨_, hx, fun _ _ _ _ _ => .bool _, fun w x y => by simp [hg, binOp, Op.stringOp]⟩

theorem op_bin (hE : EnvOk E) (op : BinOp) (t : TypeId) (x y : Operand) (t' : TypeId) (hx : exOp E rec (.binOp op t x y t') s h c = some r) (hs : SR E.P E.base φ h.length w s a) (hh : HR E.P E.base w0 φ h w) (hn : Cont E w0 φ h w dst a next c r) :
    (⟨dst, .binOp op t x y t', ty, pos, after, guard⟩ : Oper).wp E.P a w next Q := by
  simp only [exOp] at hx
  split at hx
  · rename_i va vb i h1 h2 h3
    have ra := ev_rel hs h1
    have rb := ev_rel hs h2
    unfold binV at hx
    split at hx
    · rename_i k m k' n
      have ea := ra.int_inv
      have eb := rb.int_inv
      have hg : ∀ op' k2 n2, (op' = .shl ∨ op' = .shr) → eqGuard op' t x y (.int k m) (.int k2 n2) = pure () := by
        intro op' k2 n2 ho
        rcases ho with rfl | rfl <;> rfl
      split at hx
      · split at hx
        · cases hx
        · rename_i hneg
          exact done_pure (o := ⟨dst, .binOp _ t x y t', ty, pos, after, guard⟩) hn hh hx (.int _ _) (by simp [execOp, ea, eb, hg, binOp, Op.shift, hneg])
      · split at hx
        · cases hx
        · rename_i hneg
          exact done_pure (o := ⟨dst, .binOp _ t x y t', ty, pos, after, guard⟩) hn hh hx (.int _ _) (by simp [execOp, ea, eb, hg, binOp, Op.shift, hneg])
      · rename_i hn1 hn2
        split at hx
        · rename_i hk
          subst hk
          obtain ⟨v, hc, hv, hrun⟩ := intV_sound (E := E) (t := t) _ hx hn1 hn2
          have := hrun w x y
          exact done_pure (o := ⟨dst, .binOp op t x y t', ty, pos, after, guard⟩) hn hh hc (hv _ _ _ _ _) (by
            simp only [execOp, ea, eb, Sem.run_bind] at this ⊢
            rw [this]; rfl)
        · cases hx
    · rename_i m n
      have ea := ra.str_inv
      have eb := rb.str_inv
      obtain ⟨v, hc, hv, hrun⟩ := strV_sound (E := E) (t := t) _ hx
      have := hrun w x y
      exact done_pure (o := ⟨dst, .binOp op t x y t', ty, pos, after, guard⟩) hn hh hc (hv _ _ _ _ _) (by
        simp only [execOp, ea, eb, Sem.run_bind] at this ⊢
        rw [this]; rfl)
    · rename_i m n
      have ea := ra.bool_inv
      have eb := rb.bool_inv
      cases hb : isK .bool i with
      | false => rw [hb] at hx; cases hx
      | true =>
        rw [hb] at hx
        have hu := (hE.ti t i h3).bool hb
        simp only [cond_true] at hx
        split at hx
        · exact done_pure (o := ⟨dst, .binOp _ t x y t', ty, pos, after, guard⟩) hn hh hx (.bool _) (by
            have hq := run_equal_bool (P := E.P) w t m n hu
            have hg1 : eqGuard .eql t x y (.bool m) (.bool n) = pure () := rfl
            have hg2 : eqGuard .neq t x y (.bool m) (.bool n) = pure () := rfl
            simp only [execOp, ea, eb, hg1, hg2, binOp, Sem.run_bind, Sem.run_pure, Result.andThen_ok, hq])
        · exact done_pure (o := ⟨dst, .binOp _ t x y t', ty, pos, after, guard⟩) hn hh hx (.bool _) (by
            have hq := run_equal_bool (P := E.P) w t m n hu
            have hg1 : eqGuard .eql t x y (.bool m) (.bool n) = pure () := rfl
            have hg2 : eqGuard .neq t x y (.bool m) (.bool n) = pure () := rfl
            simp only [execOp, ea, eb, hg1, hg2, binOp, Sem.run_bind, Sem.run_pure, Result.andThen_ok, hq])
        · cases hx
    · cases hx
  · cases hx

theorem op_un (op : UnOp) (t : TypeId) (x : Operand) (hx : exOp E rec (.unOp op t x) s h c = some r) (hs : SR E.P E.base φ h.length w s a) (hh : HR E.P E.base w0 φ h w) (hn : Cont E w0 φ h w dst a next c r) :
    (⟨dst, .unOp op t x, ty, pos, after, guard⟩ : Oper).wp E.P a w next Q := by
  simp only [exOp] at hx
  cases hv : ev s x with
  | none => rw [hv] at hx; cases hx
  | some v =>
    rw [hv] at hx
    have hr := ev_rel hs hv
    simp only [unV] at hx
    split at hx
    · have e := hr.int_inv
      exact done_pure (o := ⟨dst, .unOp _ t x, ty, pos, after, guard⟩) hn hh hx (.int _ _) (by simp [execOp, e, Op.unary, Op.intArith])
    · have e := hr.bool_inv
      exact done_pure (o := ⟨dst, .unOp _ t x, ty, pos, after, guard⟩) hn hh hx (.bool _) (by simp [execOp, e, Op.unary])
    · cases hx

theorem op_extract (t : Operand) (j : Nat) (hx : exOp E rec (.extract t j) s h c = some r) (hs : SR E.P E.base φ h.length w s a) (hh : HR E.P E.base w0 φ h w) (hn : Cont E w0 φ h w dst a next c r) :
    (⟨dst, .extract t j, ty, pos, after, guard⟩ : Oper).wp E.P a w next Q := by
  simp only [exOp] at hx
  split at hx
  · rename_i vs h1
    obtain ⟨ys, e, hl, hr⟩ := (ev_rel hs h1).tup_inv
    split at hx
    · rename_i v hv
      have hlt : j < ys.size := by
        have := (List.getElem?_eq_some_iff.1 hv).1
        rw [← hl]; simpa using this
      exact done_pure (o := ⟨dst, .extract t j, ty, pos, after, guard⟩) hn hh hx (hr j v ys[j] (by simpa using hv) (Array.getElem?_eq_getElem hlt)) (by
        simp [execOp, e, Instr.extract, Array.getElem?_eq_getElem hlt])
    · cases hx
  · cases hx

theorem op_func (f : Fn) (p q : Array Operand) (hx : exOp E rec (.makeFunc f p q) s h c = some r) (hs : SR E.P E.base φ h.length w s a) (hh : HR E.P E.base w0 φ h w) (hn : Cont E w0 φ h w dst a next c r) :
    (⟨dst, .makeFunc f p q, ty, pos, after, guard⟩ : Oper).wp E.P a w next Q := by
  simp only [exOp] at hx
  split at hx
  · rename_i vs ws h1 h2
    obtain ⟨l1, r1⟩ := evs_rel hs h1
    obtain ⟨l2, r2⟩ := evs_rel hs h2
    refine done_pure (o := ⟨dst, .makeFunc f p q, ty, pos, after, guard⟩) hn hh hx (.func f vs.toArray (p.map a.eval) ws.toArray (q.map a.eval) ?_ ?_ ?_ ?_) (by simp [execOp, Instr.makeFunc])
    · simpa using l1
    · intro i x y hx hy
      exact r1 i x y (by simpa using hx) (by simpa [List.getElem?_map] using hy)
    · simpa using l2
    · intro i x y hx hy
      exact r2 i x y (by simpa using hx) (by simpa [List.getElem?_map] using hy)
  · cases hx

theorem op_fieldAddr (hE : EnvOk E) (t : TypeId) (x : Operand) (f : Nat) (hx : exOp E rec (.fieldAddr t x f) s h c = some r) (hs : SR E.P E.base φ h.length w s a) (hh : HR E.P E.base w0 φ h w) (hn : Cont E w0 φ h w dst a next c r) :
    (⟨dst, .fieldAddr t x f, ty, pos, after, guard⟩ : Oper).wp E.P a w next Q := by
  simp only [exOp] at hx
  split at hx
  · rename_i ad i h1 h2
    obtain ⟨hsp, hlt, e⟩ := (ev_rel hs h1).ptr_inv
    split at hx
    · rename_i off ft hf
      split at hx
      · rename_i j hj
        cases hb : Nat.blt 0 j.ks.length with
        | false => rw [hb] at hx; cases hx
        | true =>
          rw [hb] at hx
          simp only [cond_true] at hx
          obtain ⟨fs, fd, hu, hfd, ho, hft⟩ := (hE.ti t i h2).field hf
          have hz := (hE.ti ft j hj).size w
          have hne : j.ks.length ≠ 0 := by
            have : 0 < j.ks.length := by simpa [Nat.blt_eq] using hb
            omega
          have hpl : (fieldPlace ⟨(φ ad.block).1, (φ ad.block).2 + ad.off, none⟩ fd).run E.P w = .ok ⟨(φ ad.block).1, (φ ad.block).2 + (ad.off + off), none⟩ w := by
            simp only [fieldPlace, hft, Sem.run_bind, hz, Result.andThen_ok, if_neg hne, Sem.run_pure, ho]
            congr 1
            unfold Addr.add
            split
            · rename_i h0; subst h0; rfl
            · simp [Nat.add_assoc]
          refine done_pure (o := ⟨dst, .fieldAddr t x f, ty, pos, after, guard⟩) hn hh hx (.ptr ad.block (ad.off + off) hlt) ?_
          simp only [execOp, e, Instr.fieldAt, Sem.run_bind, TFact.under hu, Result.andThen_ok]
          simp [hfd, Instr.sureAddr, hpl]
      · cases hx
    · cases hx
  · cases hx
end
end Go.Proofs.Ytgigdaijailfkaa.Am
