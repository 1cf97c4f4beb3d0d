/- The law FnExactActorOk.
Conditions: none. -/
import Derived.Test.YtnmjhhipbfngkaaAo2
set_option linter.unusedSimpArgs false
set_option linter.unusedVariables false
namespace Go.Proofs.Ytnmjhhipbfngkaa.Am
open Go Go.RowKit

theorem specActorOk_run {base f : Nat} {h : AH} {p : Nat → Prop} {l : List In} {c : Option Addr} {A : Ac} {cs : List Value} (hL : ∀ x ∈ l, x.s.size ≤ 9223372036854775807) (hl : l.length ≤ 9223372036854775807) (hc : Sl h c (insR l)) (hM : AcM A) (x : AcR h p f A cs) (hb : base ≤ h.length) :
    ∃ h', run (Et base) 37 [.slice c l.length l.length, .agg cs.toArray] h = some (.bool (acOk f l A), h') ∧ KB NoB h h' := by
  obtain ⟨a, b, g, rfl, hr, hx, hk, _⟩ := x
  obtain ⟨m1, m2, m3⟩ := hM
  obtain ⟨o1, k1, q1⟩ := box_own (base := base) (t := 29) (h := h) (cs := acV A.pid A.pc a A.regs.length b A.box.length g A.links.length) hb rfl
  generalize hh1 : h ++ [some (⟨acV A.pid A.pc a A.regs.length b A.box.length g A.links.length, 29⟩ : Blk)] = h1 at o1 k1 q1
  obtain ⟨h2, e2, k2⟩ := specCodeOk_run (base := base) hL hl (hc.keepN k1) (by omega)
  have n2 := k2.1
  have o2 := o1.keepN k2
  have k02 := kN k1 k2
  obtain ⟨h3, e3, k3⟩ := l9Terms_run (base := base) m1 (hr.keep k02 fun _ _ h => h) (by omega)
  have n3 := k3.1
  have o3 := o2.keepN k3
  have k03 := kN k02 k3
  obtain ⟨h4, e4, k4⟩ := l9Terms_run (base := base) m2 (hx.keep k03 fun _ _ h => h) (by omega)
  have o4 := o3.keepN k4
  have k04 := kN k03 k4
  have e5 := l9Links_run (base := base) (v := A.pid) m3 (hk.keepN k04)
  have e6 := l1In_run (base := base) (h := h2) (x := A.pid) (a := 1) (b := 99999)
  have e7 := l1In_run (base := base) (h := h2) (x := A.pc) (a := 0) (b := IntKind.wrap .i64 ((l.length : Int) - (1 : Int)))
  have hJ : ∃ J : Bool, (codeOk l && (inB A.pid 1 99999 && (inB A.pc 0 (IntKind.wrap .i64 ((l.length : Int) - (1 : Int))) && (((A.regs.length : Int) == (8 : Int)) && decide ((A.box.length : Int) ≤ (30 : Int)))))) = J := ⟨_, rfl⟩
  obtain ⟨J, hJ⟩ := hJ
  have ev : acOk f l A = (J && (tsB f A.regs && (tsB f A.box && lkOk A.links A.pid))) := by
    rw [← hJ]
    unfold acOk
    cases codeOk l <;> cases inB A.pid 1 99999 <;> cases inB A.pc 0 (IntKind.wrap .i64 ((l.length : Int) - (1 : Int))) <;> cases ((A.regs.length : Int) == (8 : Int)) <;> cases tsB f A.regs <;> cases decide ((A.box.length : Int) ≤ (30 : Int)) <;> rfl
  rw [ev]
  have start : ∀ {r : Value × AH}, _ = some r → run (Et base) 37 [.slice c l.length l.length, .agg (acV A.pid A.pc a A.regs.length b A.box.length g A.links.length).toArray] h = some r := fun {r} hr => r37 (lets fun y ey => (by
    rw [ey, hh1]
    refine bj (q := ([some (.pointer (at0 h.length)), some (.bool (!J))], h2)) ?_ (bs rfl (bB rfl hr))
    refine bs e2 (bB rfl ?_)
    rw [← hJ]
    cases codeOk l with
    | false => exact ifT rfl rfl
    | true =>
      refine ifF (by decide) (bI (o2.at0 (i := 0) rfl) (bs e6 (bB rfl ?_)))
      cases inB A.pid 1 99999 with
      | false => exact ifT rfl rfl
      | true =>
        refine ifF (by decide) (bI (o2.at0 (i := 1) rfl) (bs e7 (bB rfl ?_)))
        cases inB A.pc 0 (IntKind.wrap .i64 ((l.length : Int) - (1 : Int))) with
        | false => exact ifT rfl rfl
        | true =>
          refine ifF (by decide) (bS (o2.at0 (i := 2) rfl) ?_)
          cases c4 : (A.regs.length : Int) == (8 : Int) with
          | false => exact ifT (by simp [bne, c4]) rfl
          | true =>
            refine ifF (by simp [bne, c4]) (bS (o2.at0 (i := 3) rfl) ?_)
            by_cases c6 : (A.box.length : Int) ≤ 30
            · rw [decide_eq_true c6, decide_eq_false (by omega)]; rfl
            · rw [decide_eq_false c6, decide_eq_true (by omega)]; rfl))
  cases J with
  | false => exact ⟨h2, start (ifT rfl rfl), k02⟩
  | true =>
    cases c5 : tsB f A.regs with
    | false => rw [c5] at e3; exact ⟨h3, start (ifF (by decide) (bS (o2.at0 (i := 2) rfl) (bs e3 (bB rfl (ifF (by decide) rfl))))), k03⟩
    | true =>
      rw [c5] at e3
      cases c7 : tsB f A.box with
      | false => rw [c7] at e4; exact ⟨h4, start (ifF (by decide) (bS (o2.at0 (i := 2) rfl) (bs e3 (bB rfl (ifT rfl (bS (o3.at0 (i := 3) rfl) (bs e4 (bB rfl (ifF (by decide) rfl))))))))), k04⟩
      | true => rw [c7] at e4; exact ⟨h4, start (ifF (by decide) (bS (o2.at0 (i := 2) rfl) (bs e3 (bB rfl (ifT rfl (bS (o3.at0 (i := 3) rfl) (bs e4 (bB rfl (ifT rfl (bS (o4.at0 (i := 4) rfl) (bI (o4.at0 (i := 0) rfl) (bs e5 (bB rfl rfl))))))))))))), k04⟩

theorem AcB.le {f : Nat} {A : Ac} (x : AcB f A) : A.Le ∧ AcM A := by
  obtain ⟨h1, h2, h3, _⟩ := x
  exact ⟨⟨by simp only [maxLen]; omega, by simp only [maxLen]; omega, by omega⟩, by omega, by omega, by omega⟩
/-! as it is read -/
set_option maxRecDepth 100000 in
theorem rd_terms {h : AH} {f : Nat} {u : Value} (x : Rd Try.prog h f 22 [u]) : ∃ a l, u = .slice a (List.length l) (List.length l) ∧ l.length ≤ maxLen ∧ TsR h (· < h.length) f l a := by
  have cT : Try.prog.cellsOf 24 = 4 := by kernel_rfl
  match f, x with
  | 0, x => exact x.elim
  | f + 1, x =>
    simp only [Rd, Try.underlying22] at x
    obtain ⟨a, n, vs, e, h2, h3, h4, h5⟩ := x
    injection e with e _
    subst e
    rw [cT] at h4 h5
    have each : ∀ i, i < n → ∃ t, TmR h (· < h.length) f t ((vs.drop (i * 4)).take 4) := fun i hi => rd_term f _ (h5 i hi)
    let g : Nat → Tm := fun i => if hi : i < n then (each i hi).choose else .mk 0 0 ⟨#[]⟩ []
    have hg : ∀ i, i < n → TmR h (· < h.length) f (g i) ((vs.drop (i * 4)).take 4) := by
      intro i hi
      simp only [g, hi, dite_true]
      exact (each i hi).choose_spec
    refine ⟨a, (List.range n).map g, by simp, by simpa using h2, vs, h3, sl_below h3, by simpa using h4, fun i t hi => ?_⟩
    have hlt : i < n := by have := (List.getElem?_eq_some_iff.1 hi).1; simpa using this
    simp [hlt] at hi
    subst hi
    exact TmR.up _ _ _ (hg i hlt)
set_option maxRecDepth 100000 in
theorem rd_actor {h : AH} {f : Nat} {cs : List Value} (x : Rd Try.prog h f 56 cs) : ∃ g A, AcR h (· < h.length) g A cs ∧ AcM A := by
  have cA : Try.prog.cellsOf 56 = 5 := by kernel_rfl
  have c3 : Try.prog.cellsOf 3 = 1 := by kernel_rfl
  have cT : Try.prog.cellsOf 22 = 1 := by kernel_rfl
  have cI : Try.prog.cellsOf 27 = 1 := by kernel_rfl
  match f, x with
  | 0, x => exact x.elim
  | f + 1, x =>
    simp only [Rd, Try.underlying56] at x
    obtain ⟨hl, hf⟩ := x
    rw [cA] at hl
    match cs, hl with
    | [v0, v1, v2, v3, v4], _ =>
      simp only [List.forall_mem_cons, c3, cT, cI, List.drop_zero, List.drop_succ_cons, List.take_succ_cons, List.take_zero] at hf
      obtain ⟨f0, f1, f2, f3, f4, _⟩ := hf
      obtain ⟨n0, e0, _⟩ := f0.int Try.underlying3
      obtain ⟨n1, e1, _⟩ := f1.int Try.underlying3
      injection e0 with e0 _
      injection e1 with e1 _
      subst e0; subst e1
      obtain ⟨a, R, rfl, m2, s2⟩ := rd_terms f2
      obtain ⟨b, B, rfl, m3, s3⟩ := rd_terms f3
      obtain ⟨g, L, e4, m4, s4, _⟩ := f4.ints Try.underlying27 Try.underlying3 c3
      injection e4 with e4 _
      subst e4
      simp only [maxLen] at m2 m3 m4
      refine ⟨f, ⟨n0, n1, R, B, L⟩, ⟨a, b, g, rfl, s2, s3, s4, ?_⟩, by simp only; omega, by simp only; omega, by simp only; omega⟩
      rcases sl_below s4 with e | e
      · exact .inl (by simpa [iv] using e)
      · exact .inr e
end Go.Proofs.Ytnmjhhipbfngkaa.Am
