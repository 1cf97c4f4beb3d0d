/- The law FnExactActorOk.
Conditions: none. -/
import Derived.Test.YtnmjhhipbfngkaaAo2
set_option linter.unusedSimpArgs false
set_option linter.unusedVariables false
namespace Go.Proofs.Ytnmjhhipbfngkaa.Am
open Go Go.RowKit

theorem specActorOk_run {base f : Nat} {h : AH} {p : Nat → Prop} {l : List In} {c : Option Addr} {A : Ac} {cs : List Value} (hL : ∀ x ∈ l, x.s.size ≤ 9223372036854775807) (hl : l.length ≤ 9223372036854775807) (hc : Sl h c (insR l)) (hM : AcM A) (x : AcR h p f A cs) (hb : base ≤ h.length) :
    ∃ h', run (Et base) 37 [.slice c l.length l.length, .agg cs.toArray] h = some (.bool (acOk f l A), h') ∧ KB NoB h h' := by
  obtain ⟨a, b, g, rfl, hr, hx, hk, _⟩ := x
  obtain ⟨m1, m2, m3⟩ := hM
  obtain ⟨o1, k1, q1⟩ := box_own (base := base) (t := 29) (h := h) (cs := acV A.pid A.pc a A.regs.length b A.box.length g A.links.length) hb rfl
  generalize hh1 : h ++ [some (⟨acV A.pid A.pc a A.regs.length b A.box.length g A.links.length, 29⟩ : Blk)] = h1 at o1 k1 q1
  obtain ⟨h2, e2, k2⟩ := specCodeOk_run (base := base) hL hl (hc.keepN k1) (by omega)
  have n2 := k2.1
  have o2 := o1.keepN k2
  have k02 := kN k1 k2
  obtain ⟨h3, e3, k3⟩ := l9Terms_run (base := base) m1 (hr.keep k02 fun _ _ h => h) (by omega)
  have n3 := k3.1
  have o3 := o2.keepN k3
  have k03 := kN k02 k3
  obtain ⟨h4, e4, k4⟩ := l9Terms_run (base := base) m2 (hx.keep k03 fun _ _ h => h) (by omega)
  have o4 := o3.keepN k4
  have k04 := kN k03 k4
  have e5 := l9Links_run (base := base) (v := A.pid) m3 (hk.keepN k04)
  have e6 := l1In_run (base := base) (h := h2) (x := A.pid) (a := 1) (b := 99999)
  have e7 := l1In_run (base := base) (h := h2) (x := A.pc) (a := 0) (b := IntKind.wrap .i64 ((l.length : Int) - (1 : Int)))
  have hJ : ∃ J : Bool, (codeOk l && (inB A.pid 1 99999 && (inB A.pc 0 (IntKind.wrap .i64 ((l.length : Int) - (1 : Int))) && (((A.regs.length : Int) == (8 : Int)) && decide ((A.box.length : Int) ≤ (30 : Int)))))) = J := ⟨_, rfl⟩
  obtain ⟨J, hJ⟩ := hJ
  have ev : acOk f l A = (J && (tsB f A.regs && (tsB f A.box && lkOk A.links A.pid))) := by
    rw [← hJ]
    unfold acOk
    cases codeOk l <;> cases inB A.pid 1 99999 <;> cases inB A.pc 0 (IntKind.wrap .i64 ((l.length : Int) - (1 : Int))) <;> cases ((A.regs.length : Int) == (8 : Int)) <;> cases tsB f A.regs <;> cases decide ((A.box.length : Int) ≤ (30 : Int)) <;> rfl
  rw [ev]
  have start : ∀ {r : Value × AH}, _ = some r → run (Et base) 37 [.slice c l.length l.length, .agg (acV A.pid A.pc a A.regs.length b A.box.length g A.links.length).toArray] h = some r := fun {r} hr => r37 (lets fun y ey => (by
    rw [ey, hh1]
    refine bj (q := ([some (.pointer (at0 h.length)), some (.bool (!J))], h2)) ?_ (bs rfl (bB rfl hr))
    refine bs e2 (bB rfl ?_)
    rw [← hJ]
    cases codeOk l with
    | false => exact ifT rfl rfl
    | true =>
      refine ifF (by decide) (bI (o2.at0 (i := 0) rfl) (bs e6 (bB rfl ?_)))
      cases inB A.pid 1 99999 with
      | false => exact ifT rfl rfl
      | true =>
        refine ifF (by decide) (bI (o2.at0 (i := 1) rfl) (bs e7 (bB rfl ?_)))
        cases inB A.pc 0 (IntKind.wrap .i64 ((l.length : Int) - (1 : Int))) with
        | false => exact ifT rfl rfl
        | true =>
          refine ifF (by decide) (bS (o2.at0 (i := 2) rfl) ?_)
          cases c4 : (A.regs.length : Int) == (8 : Int) with
          | false => exact ifT (by simp [bne, c4]) rfl
          | true =>
            refine ifF (by simp [bne, c4]) (bS (o2.at0 (i := 3) rfl) ?_)
            by_cases c6 : (A.box.length : Int) ≤ 30
            · rw [decide_eq_true c6, decide_eq_false (by omega)]; rfl
            · rw [decide_eq_false c6, decide_eq_true (by omega)]; rfl))
  cases J with
  | false => exact ⟨h2, start (ifT rfl rfl), k02⟩
  | true =>
    cases c5 : tsB f A.regs with
    | false => rw [c5] at e3; exact ⟨h3, start (ifF (by decide) (bS (o2.at0 (i := 2) rfl) (bs e3 (bB rfl (ifF (by decide) rfl))))), k03⟩
    | true =>
      rw [c5] at e3
      cases c7 : tsB f A.box with
      | false => rw [c7] at e4; exact ⟨h4, start (ifF (by decide) (bS (o2.at0 (i := 2) rfl) (bs e3 (bB rfl (ifT rfl (bS (o3.at0 (i := 3) rfl) (bs e4 (bB rfl (ifF (by decide) rfl))))))))), k04⟩
      | true => rw [c7] at e4; exact ⟨h4, start (ifF (by decide) (bS (o2.at0 (i := 2) rfl) (bs e3 (bB rfl (ifT rfl (bS (o3.at0 (i := 3) rfl) (bs e4 (bB rfl (ifT rfl (bS (o4.at0 (i := 4) rfl) (bI (o4.at0 (i := 0) rfl) (bs e5 (bB rfl rfl))))))))))))), k04⟩

theorem AcB.le {f : Nat} {A : Ac} (x : AcB f A) : A.Le ∧ AcM A := by
  obtain ⟨h1, h2, h3, _⟩ := x
  exact ⟨⟨by simp only [maxLen]; omega, by simp only [maxLen]; omega, by omega⟩, by omega, by omega, by omega⟩
theorem actorOk_law {base f : Nat} {h : AH} {p : Nat → Prop} {l : List In} {c : Option Addr} {A : Ac} {cs : List Value} (hL : ∀ x ∈ l, x.s.size ≤ 9223372036854775807) (hl : l.length ≤ 9223372036854775807) (hc : Sl h c (insR l)) (hM : AcM A) (x : AcR h p f A cs) (hb : base ≤ h.length) (hp : ∀ b, p b → b < h.length) :
    ∃ h', run (Et base) 7 [.slice c l.length l.length, .agg cs.toArray] h = some (.bool true, h') := by
  have x0 := x
  obtain ⟨a, b, g, rfl, _, _, _, _⟩ := x0
  generalize hcs : acV A.pid A.pc a A.regs.length b A.box.length g A.links.length = ca at x
  have lt : ∀ {y : AH}, h.length ≤ y.length → ∀ b, p b → b < y.length := fun hx b hbp => by have := hp b hbp; omega
  obtain ⟨o1, k1, q1⟩ := box_own (base := base) (t := 56) (h := h) (cs := ca) hb rfl
  rw [← hcs] at o1 k1 q1
  generalize hh1 : h ++ [some (⟨acV A.pid A.pc a A.regs.length b A.box.length g A.links.length, 56⟩ : Blk)] = h1 at o1 k1 q1
  obtain ⟨z2, h2, e2, k2, hz2⟩ := szInsS_run (base := base) hL hl (hc.keepN k1) (by omega)
  have n2 := k2.1
  have k02 := kN k1 k2
  have o2 := o1.keepN k2
  subst hcs
  by_cases c2 : z2 < 0
  · exact ⟨h2, r7 (lets fun y ey => (by rw [ey, hh1]; exact bs e2 (bI rfl (ifT (decide_eq_true c2) rfl))))⟩
  obtain ⟨hlen, _, hz2'⟩ := hz2 c2
  obtain ⟨z3, h3, e3, k3, _, _, hz3⟩ := szActor_run (base := base) (left := z2) hM (x.keep k02 fun _ _ h => h) (by omega) (lt (by omega)) (by omega) hz2'
  have n3 := k3.1
  have k03 := kN k02 k3
  have o3 := o2.keepN k3
  by_cases c3 : z3 < 0
  · exact ⟨h3, r7 (lets fun y ey => (by rw [ey, hh1]; exact bs e2 (bI rfl (ifF (by simpa using c2) (q5 o2 (bs e3 (bI rfl (ifT (decide_eq_true c3) rfl))))))))⟩
  obtain ⟨hB, _⟩ := hz3 c3
  obtain ⟨hLe, _⟩ := hB.le
  obtain ⟨h4, e4, o4, k4, m4⟩ := toInsS_run (base := base) hlen (hc.keepN k03) (by omega)
  have n4 := k4.1
  have k04 := kN k03 k4
  have p4 := o3.keepN k4
  obtain ⟨cs5, h5, e5, A5, k5⟩ := toActor_run (base := base) hB (x.keep k04 fun _ _ h => h) (by omega) (lt (by omega))
  have n5 := k5.1
  have k05 := kN k04 k5
  obtain ⟨p5, c5, a5, x5, b5, y5, g5, w5, rfl⟩ := A5.form
  obtain ⟨h6, e6, k6⟩ := specActorOk_run (base := base) hL hl (o4.keepN k5).sl hM A5.acR (by omega)
  have n6 := k6.1
  have k06 := kN k05 k6
  obtain ⟨h7, e7, o7, k7, m7⟩ := toInsS_run (base := base) hlen (hc.keepN k06) (by omega)
  have n7 := k7.1
  have k07 := kN k06 k7
  have p7 := ((p4.keepN k5).keepN k6).keepN k7
  obtain ⟨cs8, h8, e8, A8, k8⟩ := toActor_run (base := base) hB (x.keep k07 fun _ _ h => h) (by omega) (lt (by omega))
  have n8 := k8.1
  have k08 := kN k07 k8
  obtain ⟨p8, c8, a8, x8, b8, y8, g8, w8, rfl⟩ := A8.form
  obtain ⟨o9, k9, q9⟩ := box_own (base := base) (t := 29) (h := h8) (cs := acV p8 c8 a8 x8 b8 y8 g8 w8) (by omega) rfl
  generalize hh9 : h8 ++ [some (⟨acV p8 c8 a8 x8 b8 y8 g8 w8, 29⟩ : Blk)] = h9 at o9 k9 q9
  have k09 := kN k08 k9
  have A9 := AcD.kp _ _ _ _ _ _ _ _ k9 (fun _ _ h => h) A8
  obtain ⟨h10, e10, k10⟩ := implActorOk_run (base := base) hL hl ((o7.keepN k8).keepN k9).sl hM A9.acR (by omega)
  have n10 := k10.1
  have k010 := kN k09 k10
  obtain ⟨h11, e11, o11, k11, m11⟩ := toInsS_run (base := base) hlen (hc.keepN k010) (by omega)
  have n11 := k11.1
  have k011 := kN k010 k11
  obtain ⟨h12, e12, k12⟩ := eqInsS_run (base := base) hl ((((o7.keepN k8).keepN k9).keepN k10).keepN k11).sl o11.sl (by omega)
  have n12 := k12.1
  have k012 := kN k011 k12
  have p12 := ((((p7.keepN k8).keepN k9).keepN k10).keepN k11).keepN k12
  have o12 := ((o9.keepN k10).keepN k11).keepN k12
  obtain ⟨cs13, h13, e13, A13, k13⟩ := toActor_run (base := base) hB (x.keep k012 fun _ _ h => h) (by omega) (lt (by omega))
  have n13 := k13.1
  obtain ⟨p13, c13, a13, x13, b13, y13, g13, w13, rfl⟩ := A13.form
  have A12 := AcD.kp _ _ _ _ _ _ _ _ (kN (kN (kN k10 k11) k12) k13) (fun _ _ h => h) A9
  obtain ⟨h14, e14, k14⟩ := eqActor_run (base := base) hLe A12.acR A13.acR (by omega)
  refine ⟨h14, r7 (lets fun y ey => ?_)⟩
  rw [ey, hh1]
  refine bs e2 (bI rfl (ifF (by simpa using c2) (q5 o2 (bs e3 (bI rfl (ifF (by simpa using c3) (bs e4 (bS rfl ?_))))))))
  rw [gate_pos (same_keep k4 (o3.at0 (i := 0) rfl))]
  refine q5 p4 (bs e5 (bs (v := acV p5 c5 a5 x5 b5 y5 g5 w5) rfl (bI rfl (bI rfl (bS rfl (bS rfl (bS rfl (bs e6 (bB rfl ?_)))))))))
  refine bs e7 (bS rfl (q5 p7 (bs e8 (bs (v := acV p8 c8 a8 x8 b8 y8 g8 w8) rfl (bI rfl (bI rfl (bS rfl (bS rfl (bS rfl (nw (show base ≤ h8.length by omega) rfl fun y ey => ?_))))))))))
  rw [hh9] at ey
  rw [ey]
  refine q5 o9 (bs e10 (bB rfl (ifF (by simp) (bs e11 (bS rfl (bs e12 (bB rfl (ifF (by decide) ?_))))))))
  refine q5 o12 (q5 p12 (bs e13 (bs (v := acV p13 c13 a13 x13 b13 y13 g13 w13) rfl (bI rfl (bI rfl (bS rfl (bS rfl (bS rfl ?_))))))))
  rw [gate_pos (same_keep k13 (o12.at0 (i := 0) rfl))]
  exact bs e14 (bB rfl (ifF (by decide) rfl))

/-! as it is read -/
set_option maxRecDepth 100000 in
theorem rd_terms {h : AH} {f : Nat} {u : Value} (x : Rd Try.prog h f 22 [u]) : ∃ a l, u = .slice a (List.length l) (List.length l) ∧ l.length ≤ maxLen ∧ TsR h (· < h.length) f l a := by
  have cT : Try.prog.cellsOf 24 = 4 := by kernel_rfl
  match f, x with
  | 0, x => exact x.elim
  | f + 1, x =>
    simp only [Rd, Try.underlying22] at x
    obtain ⟨a, n, vs, e, h2, h3, h4, h5⟩ := x
    injection e with e _
    subst e
    rw [cT] at h4 h5
    have each : ∀ i, i < n → ∃ t, TmR h (· < h.length) f t ((vs.drop (i * 4)).take 4) := fun i hi => rd_term f _ (h5 i hi)
    let g : Nat → Tm := fun i => if hi : i < n then (each i hi).choose else .mk 0 0 ⟨#[]⟩ []
    have hg : ∀ i, i < n → TmR h (· < h.length) f (g i) ((vs.drop (i * 4)).take 4) := by
      intro i hi
      simp only [g, hi, dite_true]
      exact (each i hi).choose_spec
    refine ⟨a, (List.range n).map g, by simp, by simpa using h2, vs, h3, sl_below h3, by simpa using h4, fun i t hi => ?_⟩
    have hlt : i < n := by have := (List.getElem?_eq_some_iff.1 hi).1; simpa using this
    simp [hlt] at hi
    subst hi
    exact TmR.up _ _ _ (hg i hlt)
set_option maxRecDepth 100000 in
theorem rd_actor {h : AH} {f : Nat} {cs : List Value} (x : Rd Try.prog h f 56 cs) : ∃ g A, AcR h (· < h.length) g A cs ∧ AcM A := by
  have cA : Try.prog.cellsOf 56 = 5 := by kernel_rfl
  have c3 : Try.prog.cellsOf 3 = 1 := by kernel_rfl
  have cT : Try.prog.cellsOf 22 = 1 := by kernel_rfl
  have cI : Try.prog.cellsOf 27 = 1 := by kernel_rfl
  match f, x with
  | 0, x => exact x.elim
  | f + 1, x =>
    simp only [Rd, Try.underlying56] at x
    obtain ⟨hl, hf⟩ := x
    rw [cA] at hl
    match cs, hl with
    | [v0, v1, v2, v3, v4], _ =>
      simp only [List.forall_mem_cons, c3, cT, cI, List.drop_zero, List.drop_succ_cons, List.take_succ_cons, List.take_zero] at hf
      obtain ⟨f0, f1, f2, f3, f4, _⟩ := hf
      obtain ⟨n0, e0, _⟩ := f0.int Try.underlying3
      obtain ⟨n1, e1, _⟩ := f1.int Try.underlying3
      injection e0 with e0 _
      injection e1 with e1 _
      subst e0; subst e1
      obtain ⟨a, R, rfl, m2, s2⟩ := rd_terms f2
      obtain ⟨b, B, rfl, m3, s3⟩ := rd_terms f3
      obtain ⟨g, L, e4, m4, s4, _⟩ := f4.ints Try.underlying27 Try.underlying3 c3
      injection e4 with e4 _
      subst e4
      simp only [maxLen] at m2 m3 m4
      refine ⟨f, ⟨n0, n1, R, B, L⟩, ⟨a, b, g, rfl, s2, s3, s4, ?_⟩, by simp only; omega, by simp only; omega, by simp only; omega⟩
      rcases sl_below s4 with e | e
      · exact .inl (by simpa [iv] using e)
      · exact .inr e
theorem actorOk_entry {base : Nat} {h : AH} {f f2 : Nat} {u : Value} {cs : List Value} (x : Rd Try.prog h f 39 [u]) (y : Rd Try.prog h f2 56 cs) (hb : base ≤ h.length) : ∃ h', run (Et base) 7 [u, .agg cs.toArray] h = some (.bool true, h') := by
  obtain ⟨a, l, rfl, hl, hs, hL⟩ := rd_ins x
  obtain ⟨g, A, hA, hM⟩ := rd_actor y
  simp only [maxLen] at hl hL
  exact actorOk_law (fun x hx => by have := hL x hx; omega) (by omega) hs hM hA hb fun b hb => hb
end Go.Proofs.Ytnmjhhipbfngkaa.Am
