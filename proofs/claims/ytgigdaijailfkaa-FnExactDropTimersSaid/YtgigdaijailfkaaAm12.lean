/- All operations in one.
Conditions: the tables tell the program's types; what a called function does is given. -/
import Derived.Test.YtgigdaijailfkaaAm11
set_option linter.unusedSimpArgs false
set_option linter.unusedVariables false
namespace Go.Proofs.Ytgigdaijailfkaa.Am
open Go Go.RowKit

section
variable {R : Type} {E : Env} {w0 w : World} {φ : Nat → Nat × Nat} {h : AH} {s : Slots} {a : Act} {next : Act → World → Prop} {Q : Exit → Act → World → Prop} {r : R} {c : Value → AH → Option R}
  {rec : Rec} {dst : Option Tmp} {ty : TypeId} {pos : String} {after : Array Edge} {guard : Option (Nat × Bool)}

theorem op_call (hE : EnvOk E) (hrec : RecOk E w0 rec) (cc : Call) (hx : exOp E rec (.call cc) s h c = some r) (hs : SR E.P E.base φ h.length w s a) (hh : HR E.P E.base w0 φ h w) (hn : Cont E w0 φ h w dst a next c r) :
    (⟨dst, .call cc, ty, pos, after, guard⟩ : Oper).wp E.P a w next Q := by
  obtain ⟨callee, xs, ts⟩ := cc
  simp only [exOp] at hx
  split at hx
  · rename_i vs hev
    split at hx
    · rename_i b
      unfold exBuiltin at hx
      split at hx
      · exact op_len hE xs ts vs hev hx hs hh hn
      · split at hx
        · rename_i v r'
          exact op_min xs ts _ _ hev hx hs hh hn
        · cases hx
      · split at hx
        · rename_i v r'
          exact op_max xs ts _ _ hev hx hs hh hn
        · cases hx
      · exact op_append hE xs ts vs hev hx hs hh hn
      · cases hx
    · rename_i f
      split at hx
      · rename_i g p q hf
        split at hx
        · rename_i rs hg
          cases hr : rec g (p.toList ++ vs ++ q.toList) h with
          | none => rw [hr] at hx; cases hx
          | some res =>
            obtain ⟨v, h'⟩ := res
            rw [hr] at hx
            simp only [Option.bind_some] at hx
            obtain ⟨y, hc, hy⟩ := viewRes_some hx
            have hfr := ev_rel hs hf
            generalize hfe : a.eval f = fu at hfr
            cases hfr with
            | func _ _ p' _ q' hp hpp hq hqq =>
              obtain ⟨hl, hrel⟩ := evs_rel hs hev
              have hcall := hrec g _ h v h' hr φ w (p'.toList ++ xs.toList.map a.eval ++ q'.toList) hh (by simp [hp, hq, hl]) (fun i x y hx hy => by
                by_cases h1 : i < p.size + vs.length
                · rw [List.getElem?_append_left (by simpa using h1)] at hx
                  rw [List.getElem?_append_left (by simp; rw [hl] at h1; simp at h1; omega)] at hy
                  by_cases h2 : i < p.size
                  · rw [List.getElem?_append_left (by simpa using h2)] at hx
                    rw [List.getElem?_append_left (by simp; omega)] at hy
                    exact hpp i x y (by simpa using hx) (by simpa using hy)
                  · rw [List.getElem?_append_right (by simp; omega)] at hx
                    rw [List.getElem?_append_right (by simp; omega)] at hy
                    refine hrel _ x y hx ?_
                    simp only [Array.length_toList] at hy ⊢
                    rw [hp]; exact hy
                · rw [List.getElem?_append_right (by simp; omega)] at hx
                  rw [List.getElem?_append_right (by simp; rw [hl] at h1; simp at h1; omega)] at hy
                  refine hqq (i - (p.size + vs.length)) x y ?_ ?_
                  · simpa using hx
                  · have : p'.size + xs.size = p.size + vs.length := by rw [hl, hp]; simp
                    simp at hy
                    rw [this] at hy
                    exact hy)
              unfold Oper.wp
              have hrun : (execOp a.eval (⟨dst, .call ⟨.value f, xs, ts⟩, ty, pos, after, guard⟩ : Oper)).run E.P w = .ok (.enter g (p'.toList ++ xs.toList.map a.eval ++ q'.toList).toArray) w := by
                have he := hE.fn g rs hg (p' ++ xs.map a.eval ++ q') w
                have harr : (p'.toList ++ xs.toList.map a.eval ++ q'.toList).toArray = p' ++ xs.map a.eval ++ q' := by
                  apply Array.ext'
                  simp
                simp only [execOp, resolve, hfe, Deferred.ofValue, Sem.run_bind, Sem.run_pure, Result.andThen_ok, invoke]
                rw [he, harr]
              rw [hrun, Oper.upon_enter]
              refine hcall.mono fun e w' he => ?_
              obtain ⟨u, φ', rfl, e1, e2, e3⟩ := he
              exact hn y h' φ' u w' hc e1 e2 (hy _ _ _ _ _ _ e3)
        · cases hx
      · cases hx
    · cases hx
  · cases hx

/-- Whatever operation. -/
theorem op_sound (hE : EnvOk E) (hrec : RecOk E w0 rec) (o : Oper) (hx : exOp E rec o.op s h c = some r) (hs : SR E.P E.base φ h.length w s a) (hh : HR E.P E.base w0 φ h w) (hn : Cont E w0 φ h w o.dst a next c r) :
    o.wp E.P a w next Q := by
  obtain ⟨dst, op, ty, pos, after, guard⟩ := o
  cases op
  case move => exact op_move _ hx hs hh hn
  case assign => exact op_assign _ hx hs hh hn
  case pick => exact op_pick _ _ _ hx hs hh hn
  case alloc => exact op_alloc hE _ hx hs hh hn
  case box => exact op_box hE _ _ hx hs hh hn
  case build => exact op_build hE _ _ hx hs hh hn
  case buildSlice => exact op_buildSlice hE _ _ _ hx hs hh hn
  case load => exact op_load hE _ _ hx hs hh hn
  case store => exact op_store hE _ _ _ hx hs hh hn
  case nilCheck => exact op_nil _ hx hs hh hn
  case binOp => exact op_bin hE _ _ _ _ _ hx hs hh hn
  case unOp => exact op_un _ _ _ hx hs hh hn
  case convert => exact op_convert hE _ _ _ hx hs hh hn
  case makeSlice => exact op_makeSlice hE _ _ _ hx hs hh hn
  case slice => exact op_slice hE _ _ _ _ _ hx hs hh hn
  case fieldAddr => exact op_fieldAddr hE _ _ _ hx hs hh hn
  case field => exact op_field hE _ _ _ hx hs hh hn
  case indexAddr => exact op_indexAddr hE _ _ _ hx hs hh hn
  case index => exact op_index hE _ _ _ hx hs hh hn
  case extract => exact op_extract _ _ hx hs hh hn
  case makeFunc => exact op_func _ _ _ hx hs hh hn
  case call => exact op_call hE hrec _ hx hs hh hn
  all_goals (simp only [exOp] at hx; cases hx)
end
end Go.Proofs.Ytgigdaijailfkaa.Am
