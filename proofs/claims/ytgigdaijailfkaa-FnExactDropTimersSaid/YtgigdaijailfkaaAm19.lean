/- Code, and calls.
Conditions: the tables tell the program's types; all orders are the program's. -/
import Derived.Test.YtgigdaijailfkaaAm18
import Derived.LoopN
set_option linter.unusedSimpArgs false
set_option linter.unusedVariables false
namespace Go.Proofs.Ytgigdaijailfkaa.Am
open Go Go.RowKit

def exitOf : Nat → Exit
  | 0 => .normal
  | 1 => .ret
  | n + 2 => .exit n

/-- What is kept and laid out again is what was there. -/
theorem lay_keep {R : Type} : ∀ {sh : Shape} {s : Slots} {c : Slots → Option R} {r : R}, lay sh (keep sh s) c = some r → sh.length = s.length →
    ∃ s', c s' = some r ∧ s'.length = s.length ∧ ∀ t v, sget s' t = some v → ∃ x, sget s t = some x ∧ ∀ P base φ n w u, VR P base φ n w x u → VR P base φ n w v u
  | [], s, c, r, h, hl => by
    have : s = [] := List.eq_nil_of_length_eq_zero (by simpa using hl.symm)
    subst this
    exact ⟨[], h, rfl, fun t v ht => by simp [sget] at ht⟩
  | k :: sh, s, c, r, h, hl => by
    cases s with
    | nil => simp at hl
    | cons x s =>
      have hl : sh.length = s.length := by simpa using hl
      cases k with
      | none =>
        simp only [lay, keep, List.tail_cons] at h
        obtain ⟨s', h1, h2, h3⟩ := lay_keep h (by simpa using hl)
        refine ⟨none :: s', h1, by simp [h2], fun t v ht => ?_⟩
        cases t with
        | zero => simp [sget] at ht
        | succ t => exact h3 t v ht
      | some k =>
        simp only [lay, keep, List.tail_cons, sget] at h
        obtain ⟨y, z, hy, hc, hr⟩ := viewV_some h
        obtain ⟨s', h1, h2, h3⟩ := lay_keep hc (by simpa using hl)
        refine ⟨some z :: s', h1, by simp [h2], fun t v ht => ?_⟩
        cases t with
        | zero =>
          simp only [sget] at ht ⊢
          injection ht with ht
          subst ht
          exact ⟨y, hy, hr⟩
        | succ t => exact h3 t v ht

theorem disp_some {R : Type} {n : Nat} {l : Slots} {h : AH} {c : Nat → Slots → AH → Option R} {r : R} : ∀ {es : List (Nat × Shape)}, disp es n l h c = some r → ∃ sh, find es n = some sh ∧ lay sh l (fun s' => c n s' h) = some r
  | [], hx => by cases hx
  | (e, sh) :: es, hx => by
    simp only [disp] at hx
    split at hx
    · rename_i he
      subst he
      exact ⟨sh, by simp [find], hx⟩
    · rename_i he
      obtain ⟨sh', h1, h2⟩ := disp_some hx
      refine ⟨sh', ?_, h2⟩
      simp only [find]
      have : Nat.beq e n = false := by
        cases hq : Nat.beq e n with
        | false => rfl
        | true => exact absurd (Nat.eq_of_beq_eq_true hq).symm he
      rw [this]
      exact h1
theorem keepK_some {s1 : Shape} {es : List (Nat × Shape)} {e : Nat} {s : Slots} {h : AH} {p : Nat × Slots × AH} (hx : keepK s1 es e s h = some p) : s.length = s1.length ∧ p.1 = e ∧ p.2.2 = h ∧ (e = 0 → p.2.1 = keep s1 s) ∧ (e ≠ 0 → ∃ sh, find es e = some sh ∧ sh.length = s.length ∧ p.2.1 = keep sh s) := by
  unfold keepK at hx
  cases hb : Nat.beq s.length s1.length with
  | false => rw [hb] at hx; cases hx
  | true =>
    rw [hb] at hx
    simp only [cond_true] at hx
    refine ⟨Nat.eq_of_beq_eq_true hb, ?_⟩
    cases e with
    | zero =>
      simp only at hx
      injection hx with hx
      subst hx
      exact ⟨rfl, rfl, fun _ => rfl, fun h => absurd rfl h⟩
    | succ e =>
      simp only at hx
      split at hx
      · rename_i sh hsh
        cases hb2 : Nat.beq s.length sh.length with
        | false => rw [hb2] at hx; cases hx
        | true =>
          rw [hb2] at hx
          injection hx with hx
          subst hx
          exact ⟨rfl, rfl, fun h => by (cases h), fun _ => ⟨sh, hsh, (Nat.eq_of_beq_eq_true hb2).symm, rfl⟩⟩
      · cases hx

theorem SR.retype {P : Program} {base : Nat} {φ : Nat → Nat × Nat} {n : Nat} {w : World} {s s' : Slots} {a : Act} (h : SR P base φ n w s a) (hl : s'.length = s.length)
    (hr : ∀ t v, sget s' t = some v → ∃ x, sget s t = some x ∧ ∀ P base φ n w u, VR P base φ n w x u → VR P base φ n w v u) : SR P base φ n w s' a :=
  ⟨hl.trans h.len, fun t v ht => by
    obtain ⟨x, hx, hv⟩ := hr t v ht
    exact hv _ _ _ _ _ _ (h.get t x hx), h.defers⟩

section
variable {E : Env} {w0 : World} {rec : Rec}

theorem exCode_sound (hE : EnvOk E) (hrec : RecOk E w0 rec) (N : Nat) : ∀ (code : Code) (an : Ann) {R : Type} (c : Nat → Slots → AH → Option R) (r : R) (s : Slots) (h : AH) (a : Act) (w : World) (φ : Nat → Nat × Nat) (Q : Exit → Act → World → Prop),
    exCode E rec (loopF N) an code s h c = some r → SR E.P E.base φ h.length w s a → HR E.P E.base w0 φ h w →
    (∀ e s' h' φ' a' w', c e s' h' = some r → Ext φ h w φ' h' w' → HR E.P E.base w0 φ' h' w' → SR E.P E.base φ' h'.length w' s' a' → Q (exitOf e) a' w') → code.wp E.P Q a w := by
  intro code
  induction code with
  | skip =>
    intro an R c r s h a w φ Q hx hs hh hQ
    cases an <;> exact wp_skip (hQ 0 s h φ a w hx (Ext.refl ..) hh hs)
  | region id ops d =>
    intro an R c r s h a w φ Q hx hs hh hQ
    cases d with
    | false =>
      have hx : exOps E rec ops.toList ops.toList s h (c 0) = some r := by cases an <;> exact hx
      refine wp_region ?_
      have := exOps_sound (Q := Q) hE hrec ops (c 0) ops.toList s h a w φ hx hs hh fun s' h' φ' a' w' q1 q2 q3 q4 => hQ 0 s' h' φ' a' w' q1 q2 q3 q4
      rw [List.range_eq_range', ← Array.length_toList, wpOps_eq_wpList ops.toList 0 (by simp)]
      exact this
    | true =>
      have hx : cond (regOk ops.toList (befs [] ops.toList) 0 ops.toList) (exD E rec ops.toList (befs [] ops.toList) ops.toList 0 s h [] [] [] (c 0)) none = some r := by cases an <;> exact hx
      cases hok : regOk ops.toList (befs [] ops.toList) 0 ops.toList with
      | false => rw [hok] at hx; cases hx
      | true =>
        rw [hok] at hx
        simp only [cond_true] at hx
        exact exD_sound hE hrec ops hok hx hs hh fun s' h' φ' a' w' q1 q2 q3 q4 => hQ 0 s' h' φ' a' w' q1 q2 q3 q4
  | seq x y ihx ihy =>
    intro an R c r s h a w φ Q hx hs hh hQ
    cases an with
    | seq j p q =>
      cases j with
      | none =>
        simp only [exCode] at hx
        refine wp_seq (ihx p _ r s h a w φ _ hx hs hh fun e s' h' φ' a' w' q1 q2 q3 q4 => ?_)
        match e, q1 with
        | 0, q1 => exact ihy q _ r s' h' a' w' φ' Q q1 q4 q3 fun e2 s2 h2 φ2 a2 w2 z1 z2 z3 z4 => hQ e2 s2 h2 φ2 a2 w2 z1 (q2.trans z2) z3 z4
        | 1, q1 => exact hQ 1 s' h' φ' a' w' q1 q2 q3 q4
        | e + 2, q1 => exact hQ (e + 2) s' h' φ' a' w' q1 q2 q3 q4
      | some sh =>
        simp only [exCode] at hx
        cases hp : exCode E rec (loopF N) p x s h (joinC sh c) with
        | none => rw [hp] at hx; cases hx
        | some pr =>
          rw [hp] at hx
          simp only [Option.bind_some] at hx
          refine wp_seq (ihx p _ pr s h a w φ _ hp hs hh fun e s' h' φ' a' w' q1 q2 q3 q4 => ?_)
          have exits : ∀ e, (c (e + 1) s' h').map Sum.inr = some pr → c (e + 1) s' h' = some r := by
            intro e he
            cases hc : c (e + 1) s' h' with
            | none => rw [hc] at he; cases he
            | some r' =>
              rw [hc] at he
              injection he with he
              subst he
              exact hx
          match e, q1 with
          | 0, q1 =>
            simp only [joinC] at q1
            cases hb : Nat.beq s'.length sh.length with
            | false => rw [hb] at q1; cases q1
            | true =>
              rw [hb] at q1
              injection q1 with q1
              subst q1
              obtain ⟨s2, z1, z2, z3⟩ := lay_keep (show lay sh (keep sh s') _ = some r from hx) (Nat.eq_of_beq_eq_true hb).symm
              exact ihy q _ r s2 h' a' w' φ' Q z1 (q4.retype z2 z3) q3 fun e2 s2 h2 φ2 a2 w2 z1 z2 z3 z4 => hQ e2 s2 h2 φ2 a2 w2 z1 (q2.trans z2) z3 z4
          | 1, q1 => exact hQ 1 s' h' φ' a' w' (exits 0 q1) q2 q3 q4
          | e + 2, q1 => exact hQ (e + 2) s' h' φ' a' w' (exits (e + 1) q1) q2 q3 q4
    | leaf => simp only [exCode] at hx; cases hx
    | cond => simp only [exCode] at hx; cases hx
    | block => simp only [exCode] at hx; cases hx
    | loop => simp only [exCode] at hx; cases hx
  | cond b x y ihx ihy =>
    intro an R c r s h a w φ Q hx hs hh hQ
    cases an with
    | cond p q =>
      simp only [exCode] at hx
      split at hx
      · rename_i t hb
        have hv := (ev_rel hs hb).bool_inv
        refine wp_cond hv ?_
        cases t with
        | true => rw [if_pos rfl] at hx; exact ihx p c r s h a w φ Q hx hs hh hQ
        | false => rw [if_neg (by decide)] at hx; exact ihy q c r s h a w φ Q hx hs hh hQ
      · cases hx
    | leaf => simp only [exCode] at hx; cases hx
    | seq => simp only [exCode] at hx; cases hx
    | block => simp only [exCode] at hx; cases hx
    | loop => simp only [exCode] at hx; cases hx
  | block id x ih =>
    intro an R c r s h a w φ Q hx hs hh hQ
    cases an with
    | block p =>
      simp only [exCode] at hx
      refine wp_block (ih p _ r s h a w φ _ hx hs hh fun e s' h' φ' a' w' q1 q2 q3 q4 => ?_)
      cases hb : Nat.beq e (id + 2) with
      | true =>
        have := Nat.eq_of_beq_eq_true hb
        subst this
        rw [hb] at q1
        simp only [exitOf, Exit.inBlock, if_true]
        exact hQ 0 s' h' φ' a' w' q1 q2 q3 q4
      | false =>
        rw [hb] at q1
        simp only [cond_false] at q1
        match e, q1, hb with
        | 0, q1, _ => exact hQ 0 s' h' φ' a' w' q1 q2 q3 q4
        | 1, q1, _ => exact hQ 1 s' h' φ' a' w' q1 q2 q3 q4
        | e + 2, q1, hb =>
          have hne : e ≠ id := fun he => by
            rw [he, Nat.beq_refl] at hb; cases hb
          simp only [exitOf, Exit.inBlock, if_neg hne]
          exact hQ (e + 2) s' h' φ' a' w' q1 q2 q3 q4
    | leaf => simp only [exCode] at hx; cases hx
    | seq => simp only [exCode] at hx; cases hx
    | cond => simp only [exCode] at hx; cases hx
    | loop => simp only [exCode] at hx; cases hx
  | loop x ih =>
    intro an R c r s h a w φ Q hx hs hh hQ
    cases an with
    | loop s1 es p =>
      simp only [exCode] at hx
      cases hb : Nat.beq s.length s1.length with
      | false => rw [hb] at hx; cases hx
      | true =>
        rw [hb] at hx
        simp only [cond_true] at hx
        have hl1 := Nat.eq_of_beq_eq_true hb
        generalize hbody : (fun (l : Slots) (h : AH) => lay s1 l fun s' => exCode E rec (loopF N) p x s' h (keepK s1 es)) = body at hx
        cases hp : loopF N body (keep s1 s) h with
        | none => rw [hp] at hx; cases hx
        | some pr =>
          rw [hp] at hx
          simp only [Option.bind_some] at hx
          obtain ⟨shx, hfx, hlx⟩ := disp_some hx
          have rounds : ∀ n s' h' φ' a' w', loopF n body (keep s1 s') h' = some pr → s'.length = s1.length → Ext φ h w φ' h' w' → HR E.P E.base w0 φ' h' w' → SR E.P E.base φ' h'.length w' s' a' → Code.rounds E.P x Q n a' w' := by
            intro n
            induction n with
            | zero => intro s' h' φ' a' w' hl; cases hl
            | succ n ihn =>
              intro s' h' φ' a' w' hlp hl q2 q3 q4
              simp only [loopF] at hlp
              cases hb1 : body (keep s1 s') h' with
              | none => rw [hb1] at hlp; cases hlp
              | some p1 =>
                rw [hb1] at hlp
                simp only [Option.bind_some] at hlp
                have hb2 := hb1
                rw [← hbody] at hb2
                obtain ⟨s3, z1, z2, z3⟩ := lay_keep hb2 (by omega)
                refine ih p _ p1 s3 h' a' w' φ' _ z1 (q4.retype z2 z3) q3 fun e s4 h4 φ4 a4 w4 y1 y2 y3 y4 => ?_
                obtain ⟨k1, k2, k3, k4, k5⟩ := keepK_some y1
                obtain ⟨p11, p12, p13⟩ := p1
                simp only at k2 k3 k4 k5 hlp
                subst k2; subst k3
                -- it is left
                have leave : p11 ≠ 0 → Q (exitOf p11) a4 w4 := by
                  intro hne
                  rw [if_neg hne] at hlp
                  injection hlp with hlp
                  subst hlp
                  obtain ⟨sh, f1, f2, f3⟩ := k5 hne
                  simp only at hfx hlx
                  rw [f1] at hfx
                  injection hfx with hfx
                  subst hfx
                  rw [f3] at hlx
                  obtain ⟨s5, g1, g2, g3⟩ := lay_keep hlx f2
                  exact hQ _ s5 _ φ4 a4 w4 g1 (q2.trans y2) y3 (y4.retype g2 g3)
                match p11, hlp, leave, k4 with
                | 0, hlp, _, k4 =>
                  rw [if_pos rfl, k4 rfl] at hlp
                  exact ihn s4 p13 φ4 a4 w4 hlp k1 (q2.trans y2) y3 y4
                | 1, _, leave, _ => exact leave (by decide)
                | e + 2, _, leave, _ => exact leave (by omega)
          exact wp_loop_rounds N (rounds N s h φ a w hp hl1 (Ext.refl ..) hh hs)
    | leaf => simp only [exCode] at hx; cases hx
    | seq => simp only [exCode] at hx; cases hx
    | cond => simp only [exCode] at hx; cases hx
    | block => simp only [exCode] at hx; cases hx
  | exit id =>
    intro an R c r s h a w φ Q hx hs hh hQ
    have hx : c (id + 2) s h = some r := by cases an <;> exact hx
    exact wp_exit (hQ (id + 2) s h φ a w hx (Ext.refl ..) hh hs)
  | ret =>
    intro an R c r s h a w φ Q hx hs hh hQ
    have hx : c 1 s h = some r := by cases an <;> exact hx
    exact wp_ret (hQ 1 s h φ a w hx (Ext.refl ..) hh hs)
  | _ =>
    intro an R c r s h a w φ Q hx hs hh hQ
    cases an <;> (simp only [exCode] at hx; cases hx)

def resOf (tmps : Array Value) : ResultVar → Sem Value
  | .tmp t => pure (tmps.getD t undef)
  | .cell q t => do loadVar t (← asAddr (tmps.getD q undef))

theorem exResults_sound (hE : EnvOk E) {h : AH} {s : Slots} {a : Act} {w : World} {φ : Nat → Nat × Nat} (hs : SR E.P E.base φ h.length w s a) (hh : HR E.P E.base w0 φ h w) : ∀ (rs : List ResultVar) (c : List Value → Option (Value × AH)) (r : Value × AH), exResults E s h rs c = some r →
    ∃ (vs us : List Value), c vs = some r ∧ vs.length = us.length ∧ (∀ (i : Nat) (x y : Value), vs[i]? = some x → us[i]? = some y → VR E.P E.base φ h.length w x y) ∧
      (rs.mapM (resOf a.tmps)).run E.P w = .ok us w
  | [], c, r, hx => ⟨[], [], hx, rfl, fun i x y h _ => by simp at h, by simp⟩
  | .tmp t :: rs, c, r, hx => by
    simp only [exResults] at hx
    split at hx
    · rename_i v hv
      obtain ⟨vs, us, h1, h2, h3, h4⟩ := exResults_sound hE hs hh rs _ r hx
      refine ⟨v :: vs, a.tmps.getD t undef :: us, h1, by simp [h2], fun i x y hx hy => ?_, ?_⟩
      · cases i with
        | zero => simp at hx hy; subst hx; subst hy; have := hs.get t v hv; simpa using this
        | succ i => exact h3 i x y hx hy
      · simp only [List.mapM_cons, resOf, Sem.run_bind, Sem.run_pure, Result.andThen_ok, h4]
    · cases hx
  | .cell q t :: rs, c, r, hx => by
    simp only [exResults] at hx
    split at hx
    · rename_i ad hv
      obtain ⟨v, u, hc, hr, hrun⟩ := load_sound hE hh hx
      obtain ⟨vs, us, h1, h2, h3, h4⟩ := exResults_sound hE hs hh rs _ r hc
      obtain ⟨_, _, e⟩ := (hs.get q _ hv).ptr_inv
      refine ⟨v :: vs, u :: us, h1, by simp [h2], fun i x y hx hy => ?_, ?_⟩
      · cases i with
        | zero => simp at hx hy; subst hx; subst hy; exact hr
        | succ i => exact h3 i x y hx hy
      · have e2 : asAddr (a.tmps.getD q undef) = pure ⟨(φ ad.block).1, (φ ad.block).2 + ad.off, none⟩ := by rw [e]; rfl
        simp only [List.mapM_cons, resOf, Sem.run_bind, Sem.run_pure, Result.andThen_ok, e2, hrun, h4]
    · cases hx

theorem exFun_sound (hE : EnvOk E) (hrec : RecOk E w0 rec) (N : Nat) {f : Nat} {fn : Func} {an : Ann} (hf : E.P.funcs[f]? = some fn) {args : List Value} {h h' : AH} {v : Value} (hx : exFun E rec (loopF N) an fn args h = some (v, h')) {φ : Nat → Nat × Nat} {w : World} {args' : List Value}
    (hh : HR E.P E.base w0 φ h w) (hl : args.length = args'.length) (hr : ∀ (i : Nat) (x y : Value), args[i]? = some x → args'[i]? = some y → VR E.P E.base φ h.length w x y) :
    Calls E.P f args'.toArray w fun e w' => ∃ u φ', e = .returned u ∧ Ext φ h w φ' h' w' ∧ HR E.P E.base w0 φ' h' w' ∧ VR E.P E.base φ' h'.length w' v u := by
  unfold exFun at hx
  cases hb : fn.body with
  | none => rw [hb] at hx; cases hx
  | some b =>
    rw [hb] at hx
    simp only at hx
    refine calls_of_wp hf hb (exCode_sound hE hrec N b an _ _ _ h _ w φ _ hx ?_ hh ?_)
    · refine ⟨by simp [hl], fun t x ht => ?_, rfl⟩
      have sg : ∀ (s : Slots) (t : Nat), sget s t = s[t]?.join := by
        intro s
        induction s with
        | nil => intro t; rfl
        | cons x r ih =>
          intro t
          cases t with
          | zero => simp [sget]
          | succ t => simp only [sget, List.getElem?_cons_succ]; exact ih t
      rw [sg] at ht
      by_cases hlt : t < args.length
      · rw [List.getElem?_append_left (by simpa using hlt)] at ht
        simp only [List.getElem?_map, List.getElem?_eq_getElem hlt, Option.map_some, Option.join_some] at ht
        injection ht with ht
        have hlt' : t < args'.length := by omega
        have := hr t args[t] args'[t] (List.getElem?_eq_getElem hlt) (List.getElem?_eq_getElem hlt')
        rw [ht] at this
        simp [Array.getElem?_append_left, hlt']
        exact this
      · rw [List.getElem?_append_right (by simpa using hlt)] at ht
        rw [List.getElem?_replicate] at ht
        split at ht <;> simp at ht
    · intro e s' h2 φ' a' w' hc q2 q3 q4
      split at hc
      · rename_i he
        obtain ⟨vs, us, h1, hlen, h3, h4⟩ := exResults_sound hE q4 q3 _ _ _ hc
        injection h1 with h1
        injection h1 with h5 h6
        subst h6
        have hres : (results fn a'.tmps).run E.P w' = .ok (if h : us.length = 1 then us[0] else .tuple us.toArray) w' := by
          have hre : results fn a'.tmps = (do
              let vs ← fn.results.mapM (resOf a'.tmps)
              pure (if h : vs.size = 1 then vs[0] else .tuple vs)) := by
            unfold results
            congr
          rw [hre]
          simp only [Array.mapM_eq_mapM_toList, Sem.run_bind]
          rw [Sem.run_map, h4]
          simp
        have hv : VR E.P E.base φ' h2.length w' v (if h : us.length = 1 then us[0] else .tuple us.toArray) := by
          rw [← h5]
          by_cases h1 : us.length = 1
          · rw [dif_pos h1]
            match vs, hlen.trans h1, h3 with
            | [x], _, h3 => exact h3 0 x us[0] rfl (List.getElem?_eq_getElem (by omega))
          · rw [dif_neg h1]
            have : mkRes vs = .tuple vs.toArray := by
              match vs, hlen with
              | [], _ => rfl
              | [x], hlen => exact absurd hlen.symm h1
              | _ :: _ :: _, _ => rfl
            rw [this]
            exact .tup _ _ (by simp [hlen]) fun i x y hx hy => h3 i x y (by simpa using hx) (by simpa using hy)
        match e, he with
        | 0, _ => exact ⟨q4.defers, _, hres, _, φ', rfl, q2, q3, hv⟩
        | 1, _ => exact ⟨q4.defers, _, hres, _, φ', rfl, q2, q3, hv⟩
      · cases hc
end

theorem exCall_sound {E : Env} (hE : EnvOk E) (w0 : World) : ∀ k, RecOk E w0 (exCall E k)
  | 0 => fun f args h v h' hx => by cases hx
  | k + 1 => fun f args h v h' hx φ w args' hh hl hr => by
    simp only [exCall] at hx
    split at hx
    · rename_i fn an hf han
      exact exFun_sound hE (exCall_sound hE w0 k) k hf hx hh hl hr
    · cases hx
end Go.Proofs.Ytgigdaijailfkaa.Am
