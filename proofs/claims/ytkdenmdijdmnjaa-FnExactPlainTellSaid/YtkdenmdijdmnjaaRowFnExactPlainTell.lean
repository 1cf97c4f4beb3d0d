/- The row of FnExactPlainTell: whatever the arguments the law answers true, and they read as they did.
Conditions: none. -/
import Derived.Test.YtkdenmdijdmnjaaP3
import Derived.Test.YtkdenmdijdmnjaaRows
import Derived.Test.YtkdenmdijdmnjaaMd
import Derived.WalkKit
import Derived.ProofKit
import Derived.OpenShut
import Derived.ShutString
import Derived.ChangeOld
import Derived.Below
import Derived.SizedLaws
namespace Go.Proofs.Ytkdenmdijdmnjaa.fnExactPlainTell
open Go.ChangeShapes Go.WideShapes Go.ChangeAt Go.RowKit
open Go.ChangeMaps (open_string shut_string)
open Go.Proofs.Ytkdenmdijdmnjaa.Am
set_option linter.unusedVariables false
theorem own : ownKnob Try.prog.godebug = none := by kernel_rfl
theorem laidOut : laidOutB Try.prog = true := by kernel_rfl
set_option maxRecDepth 100000 in
theorem lifted (os : Os) (started : os.Started) (H : Type) (enc : TypeId × Value → H) :
    ReturnsInHanded {} Try.checked os 3 .any (Rows.fnExactPlainTellSpec.pre6 enc Try.prog Try.f3 Rows.fnExactPlainTellRow.domain false) (Rows.fnExactPlainTellSpec.post enc Try.prog Try.f3 false true false false) := by
  refine returnsInHanded_of_change_sized (C := Try.checked) own started (by kernel_rfl) Try.func3
    (ChangeSpec.witness6 (enc := enc) (C := Try.checked) false ⟨#[], #[.agg #[.slice none 0 0, .slice none 0 0, .int .i64 0, .slice none 0 0], .int .i64 0, .agg #[.int .i64 0, .int .i64 0, .string ⟨#[]⟩, .slice none 0 0]], []⟩ 8 (by kernel_rfl) (by kernel_rfl) (by kernel_rfl) (by kernel_rfl)) ?_
  intro W base args ds gs before hval0 hW hcnd hsz0 _
  have hval : ∀ (j : Nat) t v, Try.f3.params[j]? = some t → args[j]? = some v → Value.okWide Try.prog W .any base t v := hval0
  have hW' := hW
  obtain ⟨p, q, hA0, hV, rfl, hfz, hnd⟩ := hW
  have hA : DataW.TrodAll enc Try.prog W 0 (fun _ => true) true Try.f3.params.toList args.toList ds p := hA0
  rw [Try.params3] at hA hval
  obtain ⟨v0, vs0, d0, ds0, p0, q0, hargs, rfl, rfl, th0, r0⟩ := trodAll_cons hA
  obtain ⟨v1, vs1, d1, ds1, p1, q1, rfl, rfl, rfl, th1, r1⟩ := trodAll_cons r0
  obtain ⟨v2, vs2, d2, ds2, p2, q2, rfl, rfl, rfl, th2, r2⟩ := trodAll_cons r1
  obtain ⟨rfl, rfl, rfl⟩ := trodAll_nil r2
  obtain rfl : args = #[v0, v1, v2] := by cases args; simp_all
  obtain ⟨rfl, rfl⟩ := trodVars_none hV
  obtain ⟨c0, rfl⟩ : ∃ cs, v0 = .agg cs := by
    have hv := hval 0 26 v0 rfl rfl
    unfold Value.okWide at hv
    rw [Try.underlying26] at hv
    obtain ⟨cs, e, _⟩ := hv
    exact ⟨cs, e⟩
  have k0 := th0
  have lt0 : ∀ x ∈ p0, x.block < W.heap.size := by obtain ⟨m, hm⟩ := k0; exact DataW.trod_lt m _ _ _ hm
  obtain ⟨fu0, tf0⟩ := th0
  obtain ⟨rd0, tm0⟩ := trod_rd (S := [26, 22, 131, 3, 9, 23, 134, 27, 29, 52, 24, 137]) (by kernel_rfl) fu0 26 _ _ (by decide) tf0
  obtain ⟨a1, rfl, rfl, rfl, w1⟩ := open_int Try.underlying3 (hval 1 3 v1 rfl rfl) th1
  obtain ⟨c2, rfl⟩ : ∃ cs, v2 = .agg cs := by
    have hv := hval 2 29 v2 rfl rfl
    unfold Value.okWide at hv
    rw [Try.underlying29] at hv
    obtain ⟨cs, e, _⟩ := hv
    exact ⟨cs, e⟩
  have k2 := th2
  have lt2 : ∀ x ∈ p2, x.block < W.heap.size := by obtain ⟨m, hm⟩ := k2; exact DataW.trod_lt m _ _ _ hm
  obtain ⟨fu2, tf2⟩ := th2
  obtain ⟨rd2, tm2⟩ := trod_rd (S := [29, 3, 9, 27]) (by kernel_rfl) fu2 29 _ _ (by decide) tf2
  clear hA0 hval0 hsz0
  obtain ⟨h', hlaw⟩ : ∃ h', run (Et W.heap.size) 3 [.agg (c0.toList.map (tell W.heap.size)).toArray, .int .i64 a1, .agg (c2.toList.map (tell W.heap.size)).toArray] (h0 W) = some (.bool true, h') := by
    have := Am.plainTell_entry (base := W.heap.size) rd0 rd2 (v := a1) (Nat.le_of_eq (h0_len W).symm)
    exact this
  have key := law_of_run (E := Et W.heap.size) (EtOk _) (EtB _) (f := 3) (args := [.agg (c0.toList.map (tell W.heap.size)).toArray, .int .i64 a1, .agg (c2.toList.map (tell W.heap.size)).toArray]) (args' := #[.agg c0, .int .i64 a1, .agg c2]) rfl (fun i x y hx hy => by
    rw [EtP]
    match i, hx, hy with
    | 0, hx, hy => injection hx with hx; injection hy with hy; subst hx; subst hy; exact (absV_rel (v := .agg c0) tm0)
    | 1, hx, hy => injection hx with hx; injection hy with hy; subst hx; subst hy; exact (.int _ _)
    | 2, hx, hy => injection hx with hx; injection hy with hy; subst hx; subst hy; exact (absV_rel (v := .agg c2) tm2)
    | n + 3, hx, hy => simp at hx) hlaw
  rw [EtP] at key
  refine key.mono fun e W' ⟨he, bel⟩ => ?_
  subst he
  exact ⟨_, rfl, _, _, _, [], _, [], hW', trodAll_mk1 (shut_bool Try.underlying4 _), (trodAll_cons_mk (Below.trod laidOut (by kernel_rfl) (of_decide_eq_true (by kernel_rfl)) k0 bel lt0) (trodAll_cons_mk (shut_int Try.underlying3 w1) (trodAll_cons_mk (Below.trod laidOut (by kernel_rfl) (of_decide_eq_true (by kernel_rfl)) k2 bel lt2) trodAll_mk0))), rfl, bel.frame _, fun h => by cases h⟩
theorem over : Rows.fnExactPlainTellRow.holds Try.pinned (OpenSpec.ofChange Rows.fnExactPlainTellSpec) :=
  OpenClaim.holds_of_wide 3 Try.f3 rfl rfl rfl rfl rfl rfl rfl ⟨rfl, rfl, rfl, rfl, rfl⟩ rfl rfl rfl rfl rfl (by kernel_rfl) Try.func3 (by kernel_rfl)
    (of_decide_eq_true (by kernel_rfl)) (by unfold Func.isWrapper; first | (rw [if_pos (by decide +kernel)]; kernel_rfl) | (rw [if_neg (by decide +kernel)]; exact ⟨rfl, rfl⟩))
    (fun os started H enc _ => lifted os started H enc)
theorem proved : Rows.FnExactPlainTellSaid := over
#print axioms proved
end Go.Proofs.Ytkdenmdijdmnjaa.fnExactPlainTell
namespace Go.Proofs.Ytkdenmdijdmnjaa
/-- The row, under a short name, for the claim. -/
theorem fnExactPlainTell_holds : Rows.FnExactPlainTellSaid := fnExactPlainTell.proved
end Go.Proofs.Ytkdenmdijdmnjaa
