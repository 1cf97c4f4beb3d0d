/- The row of FnExactPlainOk: whatever the arguments the law answers true, and they read as they did.
Conditions: none. -/
import Derived.Test.YtnmjhhipbfngkaaRows
import Derived.Test.YtnmjhhipbfngkaaPle
import Derived.Test.YtnmjhhipbfngkaaMd
import Derived.WalkKit
import Derived.ProofKit
import Derived.OpenShut
import Derived.ShutString
import Derived.ChangeOld
import Derived.Below
import Derived.SizedLaws
namespace Go.Proofs.Ytnmjhhipbfngkaa.fnExactPlainOk
open Go.ChangeShapes Go.WideShapes Go.ChangeAt Go.RowKit
open Go.ChangeMaps (open_string shut_string)
open Go.Proofs.Ytnmjhhipbfngkaa.Am
set_option linter.unusedVariables false
theorem own : ownKnob Try.prog.godebug = none := by kernel_rfl
theorem laidOut : laidOutB Try.prog = true := by kernel_rfl
set_option maxRecDepth 100000 in
theorem lifted (os : Os) (started : os.Started) (H : Type) (enc : TypeId × Value → H) :
    ReturnsInHanded {} Try.checked os 8 .any (Rows.fnExactPlainOkSpec.pre6 enc Try.prog Try.f8 Rows.fnExactPlainOkRow.domain false) (Rows.fnExactPlainOkSpec.post enc Try.prog Try.f8 false true false false) := by
  refine returnsInHanded_of_change_sized (C := Try.checked) own started (by kernel_rfl) Try.func8
    (ChangeSpec.witness6 (enc := enc) (C := Try.checked) false ⟨#[], #[.agg #[.slice none 0 0, .slice none 0 0, .int .i64 0, .slice none 0 0]], []⟩ 8 (by kernel_rfl) (by kernel_rfl) (by kernel_rfl) (by kernel_rfl)) ?_
  intro W base args ds gs before hval0 hW hcnd hsz0 _
  have hval : ∀ (j : Nat) t v, Try.f8.params[j]? = some t → args[j]? = some v → Value.okWide Try.prog W .any base t v := hval0
  have hW' := hW
  obtain ⟨p, q, hA0, hV, rfl, hfz, hnd⟩ := hW
  have hA : DataW.TrodAll enc Try.prog W 0 (fun _ => true) true Try.f8.params.toList args.toList ds p := hA0
  rw [Try.params8] at hA hval
  obtain ⟨v0, vs0, d0, ds0, p0, q0, hargs, rfl, rfl, th0, r0⟩ := trodAll_cons hA
  obtain ⟨rfl, rfl, rfl⟩ := trodAll_nil r0
  obtain rfl : args = #[v0] := by cases args; simp_all
  obtain ⟨rfl, rfl⟩ := trodVars_none hV
  obtain ⟨c0, rfl⟩ : ∃ cs, v0 = .agg cs := by
    have hv := hval 0 64 v0 rfl rfl
    unfold Value.okWide at hv
    rw [Try.underlying64] at hv
    obtain ⟨cs, e, _⟩ := hv
    exact ⟨cs, e⟩
  have k0 := th0
  have lt0 : ∀ x ∈ p0, x.block < W.heap.size := by obtain ⟨m, hm⟩ := k0; exact DataW.trod_lt m _ _ _ hm
  obtain ⟨fu0, tf0⟩ := th0
  obtain ⟨rd0, tm0⟩ := trod_rd (S := [64, 39, 113, 3, 9, 61, 56, 22, 24, 27, 62, 172]) (by kernel_rfl) fu0 64 _ _ (by decide) tf0
  clear hA0 hval0 hsz0
  obtain ⟨h', hlaw⟩ : ∃ h', run (Et W.heap.size) 8 [.agg (c0.toList.map (tell W.heap.size)).toArray] (h0 W) = some (.bool true, h') := by
    have := Am.plainOk_entry (base := W.heap.size) rd0 (Nat.le_of_eq (h0_len W).symm)
    exact this
  have key := law_of_run (E := Et W.heap.size) (EtOk _) (EtB _) (f := 8) (args := [.agg (c0.toList.map (tell W.heap.size)).toArray]) (args' := #[.agg c0]) rfl (fun i x y hx hy => by
    rw [EtP]
    match i, hx, hy with
    | 0, hx, hy => injection hx with hx; injection hy with hy; subst hx; subst hy; exact (absV_rel (v := .agg c0) tm0)
    | n + 1, hx, hy => simp at hx) hlaw
  rw [EtP] at key
  refine key.mono fun e W' ⟨he, bel⟩ => ?_
  subst he
  exact ⟨_, rfl, _, _, _, [], _, [], hW', trodAll_mk1 (shut_bool Try.underlying4 _), (trodAll_cons_mk (Below.trod laidOut (by kernel_rfl) (of_decide_eq_true (by kernel_rfl)) k0 bel lt0) trodAll_mk0), rfl, bel.frame _, fun h => by cases h⟩
theorem over : Rows.fnExactPlainOkRow.holds Try.pinned (OpenSpec.ofChange Rows.fnExactPlainOkSpec) :=
  OpenClaim.holds_of_wide 8 Try.f8 rfl rfl rfl rfl rfl rfl rfl ⟨rfl, rfl, rfl, rfl, rfl⟩ rfl rfl rfl rfl rfl (by kernel_rfl) Try.func8 (by kernel_rfl)
    (of_decide_eq_true (by kernel_rfl)) (by unfold Func.isWrapper; first | (rw [if_pos (by decide +kernel)]; kernel_rfl) | (rw [if_neg (by decide +kernel)]; exact ⟨rfl, rfl⟩))
    (fun os started H enc _ => lifted os started H enc)
theorem proved : Rows.FnExactPlainOkSaid := over
#print axioms proved
end Go.Proofs.Ytnmjhhipbfngkaa.fnExactPlainOk
namespace Go.Proofs.Ytnmjhhipbfngkaa
/-- The row, under a short name, for the claim. -/
theorem fnExactPlainOk_holds : Rows.FnExactPlainOkSaid := fnExactPlainOk.proved
end Go.Proofs.Ytnmjhhipbfngkaa
