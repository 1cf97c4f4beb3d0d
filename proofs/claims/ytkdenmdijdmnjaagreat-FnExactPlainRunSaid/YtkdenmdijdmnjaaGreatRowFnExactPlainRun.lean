/- The row of FnExactPlainRun: whatever the arguments the law answers true, and they read as they did.
Conditions: none. -/
import Derived.Test.YtkdenmdijdmnjaaGreatP4
import Derived.Test.YtkdenmdijdmnjaaGreatRows
import Derived.Test.YtkdenmdijdmnjaaGreatMd
import Derived.WalkKit
import Derived.ProofKit
import Derived.OpenShut
import Derived.ShutString
import Derived.ChangeOld
import Derived.Below
import Derived.SizedLaws
namespace Go.Proofs.YtkdenmdijdmnjaaGreat.fnExactPlainRun
open Go.ChangeShapes Go.WideShapes Go.ChangeAt Go.RowKit
open Go.ChangeMaps (open_string shut_string)
open Go.Proofs.YtkdenmdijdmnjaaGreat.Am
set_option linter.unusedVariables false
theorem own : ownKnob Tryz.prog.godebug = none := by kernel_rfl
theorem laidOut : laidOutB Tryz.prog = true := by kernel_rfl
set_option maxRecDepth 100000 in
theorem lifted(os : Os)(started : os.Started)(H : Type)(enc : TypeId × Value -> H):
    ReturnsInHanded {} Tryz.checked os 3 .any (Rows.fnExactPlainRunSpec.pre6 enc Tryz.prog Tryz.f3 Rows.fnExactPlainRunRow.domain false) (Rows.fnExactPlainRunSpec.post enc Tryz.prog Tryz.f3 false true false false) := by
  refine returnsInHanded_of_change_sized (C := Tryz.checked) own started (by kernel_rfl) Tryz.func3
    (ChangeSpec.witness6 (enc := enc) (C := Tryz.checked) false ⟨#[], #[.agg #[.slice none 0 0, .slice none 0 0, .int .i64 0, .slice none 0 0], .int .i64 0, .int .i64 0], []⟩ 8 (by kernel_rfl) (by kernel_rfl) (by kernel_rfl) (by kernel_rfl)) ?_
  intro W base args ds gs before hval0 hW hcnd hsz0 _
  have hval : ∀ (j : Nat) t v, Tryz.f3.params[j]? = some t -> args[j]? = some v -> Value.okWide Tryz.prog W .any base t v := hval0
  have hW' := hW
  obtain ⟨p, q, hA0, hV, rfl, hfz, hnd⟩ := hW
  have hA : DataW.TrodAll enc Tryz.prog W 0 (λ_ => true) true Tryz.f3.params.toList args.toList ds p := hA0
  rw [Tryz.params3] at hA hval
  obtain ⟨v0, vs0, d0, ds0, p0, q0, hargs, rfl, rfl, th0, r0⟩ := trodAll_cons hA
  obtain ⟨v1, vs1, d1, ds1, p1, q1, rfl, rfl, rfl, th1, r1⟩ := trodAll_cons r0
  obtain ⟨v2, vs2, d2, ds2, p2, q2, rfl, rfl, rfl, th2, r2⟩ := trodAll_cons r1
  obtain ⟨rfl, rfl, rfl⟩ := trodAll_nil r2
  obtain rfl : args = #[v0, v1, v2] := by cases args; simp_all
  obtain ⟨rfl, rfl⟩ := trodVars_none hV
  obtain ⟨c0, rfl⟩ : ∃ cs, v0 = .agg cs := by
    have hv := hval 0 26 v0 rfl rfl
    unfold Value.okWide at hv
    rw [Tryz.underlying26] at hv
    obtain ⟨cs, e, _⟩ := hv
    exact ⟨cs, e⟩
  have k0 := th0
  have lt0 : ∀ x ∈ p0, x.block < W.heap.size := by obtain ⟨m, hm⟩ := k0; exact DataW.trod_lt m _ _ _ hm
  obtain ⟨fu0, tf0⟩ := th0
  obtain ⟨rd0, Ym⟩ := Pd (S := [26, 22, 70, 3, 9, 23, 74, 72, 77, 51, 24, 79]) (by kernel_rfl) fu0 26 _ _ (by decide) tf0
  obtain ⟨a1, rfl, rfl, rfl, w1⟩ := open_int Tryz.underlying3 (hval 1 3 v1 rfl rfl) th1
  obtain ⟨a2, rfl, rfl, rfl, w2⟩ := open_int Tryz.underlying3 (hval 2 3 v2 rfl rfl) th2
  clear hA0 hval0 hsz0
  obtain ⟨h', hlaw⟩ : ∃ h', run (Et W.heap.size) 3 [.agg (c0.toList.map (lW W.heap.size)).toArray, .int .i64 a1, .int .i64 a2] (h0 W) = some (.bool true, h') := by
    have := Am.vX (base := W.heap.size) rd0 (v := a1) (w := a2) (Nat.le_of_eq (We W).symm)
    exact this
  have key := ET (E := Et W.heap.size) (afw _) (EtB _) (f := 3) (args := [.agg (c0.toList.map (lW W.heap.size)).toArray, .int .i64 a1, .int .i64 a2]) (args' := #[.agg c0, .int .i64 a1, .int .i64 a2]) rfl (λi x y hx hy => by
    rw [EtP]
    match i, hx, hy with
    | 0, hx, hy => injection hx with hx; injection hy with hy; subst hx; subst hy; exact (Kg (v := .agg c0) Ym)
    | 1, hx, hy => injection hx with hx; injection hy with hy; subst hx; subst hy; exact (.int _ _)
    | 2, hx, hy => injection hx with hx; injection hy with hy; subst hx; subst hy; exact (.int _ _)
    | n + 3, hx, hy => simp at hx) hlaw
  rw [EtP] at key
  refine key.mono λe W' ⟨he, bel⟩ => ?_
  subst he
  exact ⟨_, rfl, _, _, _, [], _, [], hW', trodAll_mk1 (shut_bool Tryz.underlying4 _), (trodAll_cons_mk (Below.trod laidOut (by kernel_rfl) (of_decide_eq_true (by kernel_rfl)) k0 bel lt0) (trodAll_cons_mk (shut_int Tryz.underlying3 w1) (trodAll_cons_mk (shut_int Tryz.underlying3 w2) trodAll_mk0))), rfl, bel.frame _,λh => by cases h⟩
theorem over : Rows.fnExactPlainRunRow.holds Tryz.pinned (OpenSpec.ofChange Rows.fnExactPlainRunSpec) :=
  OpenClaim.holds_of_wide 3 Tryz.f3 rfl rfl rfl rfl rfl rfl rfl ⟨rfl, rfl, rfl, rfl, rfl⟩ rfl rfl rfl rfl rfl (by kernel_rfl) Tryz.func3 (by kernel_rfl)
    (of_decide_eq_true (by kernel_rfl)) (by unfold Func.isWrapper; first | (rw [if_pos (by decide +kernel)]; kernel_rfl) | (rw [if_neg (by decide +kernel)]; exact ⟨rfl, rfl⟩))
    (λos started H enc _ => lifted os started H enc)
theorem proved : Rows.FnExactPlainRunSaid := over
#print axioms proved
end Go.Proofs.YtkdenmdijdmnjaaGreat.fnExactPlainRun
namespace Go.Proofs.YtkdenmdijdmnjaaGreat
/-- The row, under a short name, for the claim. -/
theorem fnExactPlainRun_holds : Rows.FnExactPlainRunSaid := fnExactPlainRun.proved
end Go.Proofs.YtkdenmdijdmnjaaGreat
