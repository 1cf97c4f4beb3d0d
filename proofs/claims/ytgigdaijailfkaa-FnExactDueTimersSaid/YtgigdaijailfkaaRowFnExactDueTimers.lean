/- The row of FnExactDueTimers: whatever the arguments the law answers true, and they read as they did.
Conditions: none. -/
import Derived.Test.YtgigdaijailfkaaRows
import Derived.Test.YtgigdaijailfkaaTd
import Derived.Test.YtgigdaijailfkaaMd
import Derived.WalkKit
import Derived.ProofKit
import Derived.OpenShut
import Derived.ShutString
import Derived.ChangeOld
import Derived.Below
import Derived.SizedLaws
namespace Go.Proofs.Ytgigdaijailfkaa.fnExactDueTimers
open Go.ChangeShapes Go.WideShapes Go.ChangeAt Go.RowKit
open Go.ChangeMaps (open_string shut_string)
open Go.Proofs.Ytgigdaijailfkaa.Am
set_option linter.unusedVariables false
theorem own : ownKnob Try.prog.godebug = none := by kernel_rfl
theorem laidOut : laidOutB Try.prog = true := by kernel_rfl
set_option maxRecDepth 100000 in
theorem lifted (os : Os) (started : os.Started) (H : Type) (enc : TypeId × Value → H) :
    ReturnsInHanded {} Try.checked os 12 .any (Rows.fnExactDueTimersSpec.pre6 enc Try.prog Try.f12 Rows.fnExactDueTimersRow.domain false) (Rows.fnExactDueTimersSpec.post enc Try.prog Try.f12 false true false false) := by
  refine returnsInHanded_of_change_sized (C := Try.checked) own started (by kernel_rfl) Try.func12
    (ChangeSpec.witness6 (enc := enc) (C := Try.checked) false ⟨#[], #[.slice none 0 0, .int .i64 0], []⟩ 8 (by kernel_rfl) (by kernel_rfl) (by kernel_rfl) (by kernel_rfl)) ?_
  intro W base args ds gs before hval0 hW hcnd hsz0 _
  have hval : ∀ (j : Nat) t v, Try.f12.params[j]? = some t → args[j]? = some v → Value.okWide Try.prog W .any base t v := hval0
  have hW' := hW
  obtain ⟨p, q, hA0, hV, rfl, hfz, hnd⟩ := hW
  have hA : DataW.TrodAll enc Try.prog W 0 (fun _ => true) true Try.f12.params.toList args.toList ds p := hA0
  rw [Try.params12] at hA hval
  obtain ⟨v0, vs0, d0, ds0, p0, q0, hargs, rfl, rfl, th0, r0⟩ := trodAll_cons hA
  obtain ⟨v1, vs1, d1, ds1, p1, q1, rfl, rfl, rfl, th1, r1⟩ := trodAll_cons r0
  obtain ⟨rfl, rfl, rfl⟩ := trodAll_nil r1
  obtain rfl : args = #[v0, v1] := by cases args; simp_all
  obtain ⟨rfl, rfl⟩ := trodVars_none hV
  obtain ⟨a0, len0, cap0, rfl⟩ := okWide_slice Try.underlying58 (hval 0 58 v0 rfl rfl)
  have k0 := th0
  have lt0 : ∀ x ∈ p0, x.block < W.heap.size := by obtain ⟨m, hm⟩ := k0; exact DataW.trod_lt m _ _ _ hm
  obtain ⟨fu0, tf0⟩ := th0
  obtain ⟨rd0, tm0⟩ := trod_rd (S := [58, 102, 95, 93, 3, 9]) (by kernel_rfl) fu0 58 _ _ (by decide) tf0
  have rd0 : Rd Try.prog (h0 W) fu0 58 [tell W.heap.size (.slice a0 len0 cap0)] := rd0
  obtain ⟨a1, rfl, rfl, rfl, w1⟩ := open_int Try.underlying3 (hval 1 3 v1 rfl rfl) th1
  clear hA0 hval0 hsz0
  obtain ⟨h', hlaw⟩ : ∃ h', run (Et W.heap.size) 12 [tell W.heap.size (.slice a0 len0 cap0), .int .i64 a1] (h0 W) = some (.bool true, h') := by
    have := Am.dueTimers_entry (base := W.heap.size) rd0 (v := a1) (Nat.le_of_eq (h0_len W).symm)
    exact this
  have key := law_of_run (E := Et W.heap.size) (EtOk _) (EtB _) (f := 12) (args := [tell W.heap.size (.slice a0 len0 cap0), .int .i64 a1]) (args' := #[.slice a0 len0 cap0, .int .i64 a1]) rfl (fun i x y hx hy => by
    rw [EtP]
    match i, hx, hy with
    | 0, hx, hy => injection hx with hx; injection hy with hy; subst hx; subst hy; exact (tell_rel (tm0 _ (List.mem_singleton.2 rfl)))
    | 1, hx, hy => injection hx with hx; injection hy with hy; subst hx; subst hy; exact (.int _ _)
    | n + 2, hx, hy => simp at hx) hlaw
  rw [EtP] at key
  refine key.mono fun e W' ⟨he, bel⟩ => ?_
  subst he
  exact ⟨_, rfl, _, _, _, [], _, [], hW', trodAll_mk1 (shut_bool Try.underlying4 _), (trodAll_cons_mk (Below.trod laidOut (by kernel_rfl) (of_decide_eq_true (by kernel_rfl)) k0 bel lt0) (trodAll_cons_mk (shut_int Try.underlying3 w1) trodAll_mk0)), rfl, bel.frame _, fun h => by cases h⟩
theorem over : Rows.fnExactDueTimersRow.holds Try.pinned (OpenSpec.ofChange Rows.fnExactDueTimersSpec) :=
  OpenClaim.holds_of_wide 12 Try.f12 rfl rfl rfl rfl rfl rfl rfl ⟨rfl, rfl, rfl, rfl, rfl⟩ rfl rfl rfl rfl rfl (by kernel_rfl) Try.func12 (by kernel_rfl)
    (of_decide_eq_true (by kernel_rfl)) (by unfold Func.isWrapper; first | (rw [if_pos (by decide +kernel)]; kernel_rfl) | (rw [if_neg (by decide +kernel)]; exact ⟨rfl, rfl⟩))
    (fun os started H enc _ => lifted os started H enc)
theorem proved : Rows.FnExactDueTimersSaid := over
#print axioms proved
end Go.Proofs.Ytgigdaijailfkaa.fnExactDueTimers
namespace Go.Proofs.Ytgigdaijailfkaa
/-- The row, under a short name, for the claim. -/
theorem fnExactDueTimers_holds : Rows.FnExactDueTimersSaid := fnExactDueTimers.proved
end Go.Proofs.Ytgigdaijailfkaa
