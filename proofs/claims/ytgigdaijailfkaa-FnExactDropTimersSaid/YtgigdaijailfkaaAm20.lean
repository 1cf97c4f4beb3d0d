/- The abstract machine without fuel.
Conditions: the tables tell the program's types; all orders are the program's. -/
import Derived.Test.YtgigdaijailfkaaAm19
set_option linter.unusedSimpArgs false
set_option linter.unusedVariables false
namespace Go.Proofs.Ytgigdaijailfkaa.Am
open Go Go.RowKit

/-- From some fuel on. -/
def Ev (p : Nat → Prop) : Prop := ∃ k0, ∀ k, k0 ≤ k → p k
theorem Ev.of {p : Nat → Prop} (h : ∀ k, p k) : Ev p := ⟨0, fun k _ => h k⟩
theorem Ev.mono {p q : Nat → Prop} (h : Ev p) (hpq : ∀ k, p k → q k) : Ev q := let ⟨k0, hk⟩ := h; ⟨k0, fun k hh => hpq k (hk k hh)⟩
theorem Ev.and {p q : Nat → Prop} (h : Ev p) (g : Ev q) : Ev fun k => p k ∧ q k :=
  let ⟨a, ha⟩ := h; let ⟨b, hb⟩ := g; ⟨max a b, fun k hk => ⟨ha k (by omega), hb k (by omega)⟩⟩
theorem Ev.one {p : Nat → Prop} (h : Ev p) : ∃ k, p k := let ⟨k0, hk⟩ := h; ⟨k0, hk k0 (Nat.le_refl _)⟩

open Classical in
noncomputable def run (E : Env) : Rec := fun f args h => if hx : ∃ r, Ev fun k => exCall E k f args h = some r then some hx.choose else none
open Classical in
noncomputable def loopL : Body → Body := fun b s h => if hx : ∃ r, Ev fun k => loopF k b s h = some r then some hx.choose else none

theorem run_iff {E : Env} {f : Nat} {args : List Value} {h : AH} {r : Value × AH} : run E f args h = some r ↔ Ev fun k => exCall E k f args h = some r := by
  unfold run
  split
  · rename_i hx
    constructor
    · intro he
      injection he with he
      have := hx.choose_spec
      rw [he] at this
      exact this
    · intro he
      obtain ⟨k, h1, h2⟩ := (he.and hx.choose_spec).one
      rw [h1] at h2
      exact h2.symm
  · rename_i hx
    exact ⟨fun he => by (cases he), fun he => absurd ⟨r, he⟩ hx⟩
theorem loopL_iff {b : Body} {s : Slots} {h : AH} {r : Nat × Slots × AH} : loopL b s h = some r ↔ Ev fun k => loopF k b s h = some r := by
  unfold loopL
  split
  · rename_i hx
    constructor
    · intro he
      injection he with he
      have := hx.choose_spec
      rw [he] at this
      exact this
    · intro he
      obtain ⟨k, h1, h2⟩ := (he.and hx.choose_spec).one
      rw [h1] at h2
      exact h2.symm
  · rename_i hx
    exact ⟨fun he => by (cases he), fun he => absurd ⟨r, he⟩ hx⟩
theorem loopF_succ {b : Body} : ∀ (n : Nat) (s : Slots) (h : AH) (r : Nat × Slots × AH), loopF n b s h = some r → loopF (n + 1) b s h = some r
  | 0, _, _, _, h => by cases h
  | n + 1, s, h, r, hx => by
    simp only [loopF] at hx
    rw [loopF]
    cases hb : b s h with
    | none => rw [hb] at hx; cases hx
    | some p =>
      rw [hb] at hx
      simp only [Option.bind_some] at hx ⊢
      by_cases hp : p.1 = 0
      · rw [if_pos hp] at hx ⊢; exact loopF_succ n _ _ _ hx
      · rw [if_neg hp] at hx ⊢; exact hx
theorem loopF_le {b : Body} {n m : Nat} (hnm : n ≤ m) {s : Slots} {h : AH} {r : Nat × Slots × AH} (hx : loopF n b s h = some r) : loopF m b s h = some r := by
  induction hnm with
  | refl => exact hx
  | step _ ih => exact loopF_succ _ _ _ _ ih
theorem loopL_of {b : Body} {n : Nat} {s : Slots} {h : AH} {r : Nat × Slots × AH} (hx : loopF n b s h = some r) : loopL b s h = some r := loopL_iff.2 ⟨n, fun _ hk => loopF_le hk hx⟩
/-- One round. -/
theorem loopL_eq (b : Body) (s : Slots) (h : AH) : loopL b s h = (b s h).bind fun p => if p.1 = 0 then loopL b p.2.1 p.2.2 else some p := by
  apply Option.ext
  intro r
  rw [show (loopL b s h = some r ↔ _) from loopL_iff]
  constructor
  · intro hx
    obtain ⟨k0, hk⟩ := hx
    have h1 := hk (k0 + 1) (by omega)
    simp only [loopF] at h1
    cases hb : b s h with
    | none => rw [hb] at h1; cases h1
    | some p =>
      rw [hb] at h1
      simp only [Option.bind_some] at h1 ⊢
      by_cases hp : p.1 = 0
      · rw [if_pos hp] at h1 ⊢; exact loopL_of h1
      · rw [if_neg hp] at h1 ⊢; exact h1
  · intro hx
    cases hb : b s h with
    | none => rw [hb] at hx; cases hx
    | some p =>
      rw [hb] at hx
      simp only [Option.bind_some] at hx
      by_cases hp : p.1 = 0
      · rw [if_pos hp] at hx
        obtain ⟨k0, hk⟩ := loopL_iff.1 hx
        refine ⟨k0 + 1, fun k hkk => ?_⟩
        obtain ⟨k', rfl⟩ : ∃ k', k = k' + 1 := ⟨k - 1, by omega⟩
        simp only [loopF, hb, Option.bind_some]
        rw [if_pos hp]
        exact hk k' (by omega)
      · rw [if_neg hp] at hx
        refine ⟨1, fun k hkk => ?_⟩
        obtain ⟨k', rfl⟩ : ∃ k', k = k' + 1 := ⟨k - 1, by omega⟩
        simp only [loopF, hb, Option.bind_some]
        rw [if_neg hp]
        exact hx

section
variable {R : Type} {E : Env}
theorem exOp_ev {o : Op} {s : Slots} {h : AH} {c : Value → AH → Option R} {ck : Nat → Value → AH → Option R} {r : R} (hx : exOp E (run E) o s h c = some r) (hc : ∀ v h', c v h' = some r → Ev fun k => ck k v h' = some r) :
    Ev fun k => exOp E (exCall E k) o s h (ck k) = some r := by
  obtain ⟨v, h', h1, h2⟩ := exOp_pair hx
  have key : Ev fun k => exOp E (exCall E k) o s h pair = some (v, h') := by
    by_cases hcall : ∃ cc, o = .call cc
    · obtain ⟨cc, rfl⟩ := hcall
      obtain ⟨callee, xs, ts⟩ := cc
      simp only [exOp] at h1 ⊢
      cases he : evs s xs.toList with
      | none => rw [he] at h1; cases h1
      | some vs =>
        rw [he] at h1
        simp only at h1 ⊢
        cases callee with
        | builtin b => exact Ev.of fun k => h1
        | invoke _ _ => cases h1
        | value f =>
          simp only at h1 ⊢
          split at h1
          · rename_i g p q hf
            cases hg : E.fn g with
            | none => rw [hg] at h1; cases h1
            | some rs =>
              rw [hg] at h1
              simp only at h1 ⊢
              cases hr : run E g (p.toList ++ vs ++ q.toList) h with
              | none => rw [hr] at h1; cases h1
              | some pr =>
                rw [hr] at h1
                refine (run_iff.1 hr).mono fun k hk => ?_
                rw [hk]
                exact h1
          · cases h1
    · refine Ev.of fun k => ?_
      rw [← h1]
      cases o <;> first | rfl | exact absurd ⟨_, rfl⟩ hcall | (rename_i mx; cases mx <;> rfl)
  refine (key.and (hc v h' h2)).mono fun k hk => ?_
  rw [exOp_nat, show (exOp E (exCall E k) o s h fun v h => some (v, h)) = some (v, h') from hk.1]
  exact hk.2

theorem guarded_ev {ops : List Oper} {o : Oper} {s : Slots} {yes no : Slots → Option R} {yk nk : Nat → Slots → Option R} {r : R} (hx : guarded ops o s yes no = some r) (hy : ∀ s, yes s = some r → Ev fun k => yk k s = some r) (hn : ∀ s, no s = some r → Ev fun k => nk k s = some r) :
    Ev fun k => guarded ops o s (yk k) (nk k) = some r := by
  unfold guarded at hx ⊢
  cases hg : o.guard with
  | none => rw [hg] at hx; exact hy s hx
  | some p =>
    obtain ⟨j, want⟩ := p
    rw [hg] at hx
    simp only at hx ⊢
    cases hd : (ops[j]?).bind (·.dst) with
    | none => rw [hd] at hx; cases hx
    | some d =>
      rw [hd] at hx
      simp only at hx ⊢
      split at hx
      · rename_i b hb
        cases b with
        | true =>
          rw [if_pos rfl] at hx
          cases want with
          | true => exact (hy _ hx).mono fun k hk => by rw [if_pos rfl]; exact hk
          | false => exact (hn _ hx).mono fun k hk => by rw [if_pos rfl]; exact hk
        | false =>
          rw [if_neg (by decide)] at hx
          cases want with
          | true => exact (hn _ hx).mono fun k hk => by rw [if_neg (by decide)]; exact hk
          | false => exact (hy _ hx).mono fun k hk => by rw [if_neg (by decide)]; exact hk
      · exact hn s hx
      · cases hx

theorem exOps_ev {ops : List Oper} {c : Slots → AH → Option R} {ck : Nat → Slots → AH → Option R} {r : R} (hc : ∀ s h', c s h' = some r → Ev fun k => ck k s h' = some r) : ∀ (l : List Oper) (s : Slots) (h : AH),
    exOps E (run E) ops l s h c = some r → Ev fun k => exOps E (exCall E k) ops l s h (ck k) = some r
  | [], s, h, hx => hc s h hx
  | o :: l, s, h, hx => by
    simp only [exOps] at hx ⊢
    refine guarded_ev hx (fun s' hy => ?_) (fun s' hn => exOps_ev hc l _ _ hn)
    exact exOp_ev hy fun v h' hv => exOps_ev hc l _ _ hv

theorem gatesA_swap {bj : Nat} {b : Option Addr} {x x' : Option R} {r r' : R} (hx' : x' = some r') : ∀ {l : List (Nat × Nat)}, gatesA bj b l x = some r → gatesA bj b l x' = some r'
  | [], h => hx'
  | (k, nm) :: l, h => by
    simp only [gatesA] at h ⊢
    cases hb : bj.testBit k with
    | true => rw [hb] at h; exact gatesA_swap hx' h
    | false =>
      rw [hb] at h
      obtain ⟨hp, h⟩ := gate_some h
      simp only [cond_false]
      unfold gate
      rw [if_pos hp]
      exact gatesA_swap hx' h
theorem gatesH_swap {bj n : Nat} {b : Option Addr} {h0 : AH} {x x' : Option R} {r r' : R} (hx' : x' = some r') : ∀ {l : List (Nat × AH)}, gatesH bj h0 b n l x = some r → gatesH bj h0 b n l x' = some r'
  | [], h => hx'
  | (k, nm) :: l, h => by
    simp only [gatesH] at h ⊢
    cases hb : bj.testBit k with
    | true => rw [hb] at h; exact gatesH_swap hx' h
    | false =>
      rw [hb] at h
      obtain ⟨hp, h⟩ := gate_some h
      simp only [cond_false]
      unfold gate
      rw [if_pos hp]
      exact gatesH_swap hx' h
theorem gatesP_swap {bj : Nat} {h0 h1 : AH} {x x' : Option R} {r r' : R} (hx' : x' = some r') : ∀ {l : List (Nat × Option Addr × Nat)}, gatesP bj h0 h1 l x = some r → gatesP bj h0 h1 l x' = some r'
  | [], h => hx'
  | (i, b, n) :: l, h => by
    simp only [gatesP] at h ⊢
    cases hb : bj.testBit i with
    | true => rw [hb] at h; exact gatesP_swap hx' h
    | false =>
      rw [hb] at h
      obtain ⟨hp, h⟩ := gate_some h
      simp only [cond_false]
      unfold gate
      rw [if_pos hp]
      exact gatesP_swap hx' h
theorem gatesF_swap {bj nm : Nat} {x x' : Option R} {r r' : R} (hx' : x' = some r') : ∀ {l : List (Nat × Option Addr × Nat)}, gatesF bj nm l x = some r → gatesF bj nm l x' = some r'
  | [], h => hx'
  | (i, b, n) :: l, h => by
    simp only [gatesF] at h ⊢
    cases hb : bj.testBit i with
    | true => rw [hb] at h; exact gatesF_swap hx' h
    | false =>
      rw [hb] at h
      obtain ⟨hp, h⟩ := gate_some h
      simp only [cond_false]
      unfold gate
      rw [if_pos hp]
      exact gatesF_swap hx' h

theorem exD_ev {ops : List Oper} {bf : List Nat} {c : Slots → AH → Option R} {ck : Nat → Slots → AH → Option R} {r : R} (hc : ∀ s h', c s h' = some r → Ev fun k => ck k s h' = some r) : ∀ (l : List Oper) (i : Nat) (s : Slots) (h : AH) (hi : List (Nat × AH)) (pe : List (Nat × Option Addr × Nat)) (an : List (Nat × Nat)),
    exD E (run E) ops bf l i s h hi pe an c = some r → Ev fun k => exD E (exCall E k) ops bf l i s h hi pe an (ck k) = some r
  | [], i, s, h, hi, pe, an, hx => hc s h hx
  | o :: l, i, s, h, hi, pe, an, hx => by
    simp only [exD] at hx ⊢
    refine guarded_ev hx (fun s' hy => ?_) (fun s' hn => exD_ev hc l _ _ _ _ _ _ hn)
    cases hcl : cl o.op with
    | pure =>
      rw [hcl] at hy
      exact exOp_ev hy fun v h' hv => exD_ev hc l _ _ _ _ _ _ hv
    | fresh =>
      rw [hcl] at hy
      simp only at hy ⊢
      cases hb : (allBef (bf.getD i 0) hi && allBef (bf.getD i 0) an) with
      | false => rw [hb] at hy; cases hy
      | true =>
        rw [hb] at hy
        simp only [cond_true] at hy ⊢
        obtain ⟨h1, _⟩ := gatesF_some hy
        exact (exOp_ev (ck := fun k v h' => exD E (exCall E k) ops bf l (i + 1) (sput s' o.dst (some v)) h' hi pe ((i, h.length) :: an) (ck k)) h1 fun v h' hv => exD_ev hc l _ _ _ _ _ _ hv).mono fun k hk => gatesF_swap hk hy
    | read =>
      rw [hcl] at hy
      simp only at hy ⊢
      split at hy
      · rename_i a n hra
        obtain ⟨h1, _⟩ := gatesA_some hy
        obtain ⟨h2, _⟩ := gatesH_some h1
        exact (exOp_ev (ck := fun k v h' => exD E (exCall E k) ops bf l (i + 1) (sput s' o.dst (some v)) h' hi ((i, a, n) :: pe) an (ck k)) h2 fun v h' hv => exD_ev hc l _ _ _ _ _ _ hv).mono fun k hk => gatesA_swap (gatesH_swap hk h1) hy
      · cases hy
    | heavy =>
      rw [hcl] at hy
      simp only at hy ⊢
      cases hb : (allBef (bf.getD i 0) hi && allBef (bf.getD i 0) an) with
      | false => rw [hb] at hy; cases hy
      | true =>
        rw [hb] at hy
        simp only [cond_true] at hy ⊢
        exact exOp_ev hy fun v h' hv => (exD_ev hc l _ _ _ _ _ _ (gatesP_some hv).1).mono fun k hk => gatesP_swap hk hv

theorem lay_ev {R : Type} : ∀ (sh : Shape) (s : Slots) (c : Slots → Option R) (ck : Nat → Slots → Option R) (r : R), lay sh s c = some r → (∀ s', c s' = some r → Ev fun k => ck k s' = some r) → Ev fun k => lay sh s (ck k) = some r
  | [], s, c, ck, r, hx, hc => hc [] hx
  | none :: sh, s, c, ck, r, hx, hc => lay_ev sh s _ (fun k r => ck k (none :: r)) r hx fun s' hs' => hc _ hs'
  | some k :: sh, s, c, ck, r, hx, hc => by
    simp only [lay] at hx ⊢
    rw [viewV_nat] at hx
    cases hv : viewV k (sget s 0) some with
    | none => rw [hv] at hx; cases hx
    | some v =>
      rw [hv] at hx
      refine (lay_ev sh s.tail _ (fun k r => ck k (some v :: r)) r hx fun s' hs' => hc _ hs').mono fun kk hk => ?_
      rw [viewV_nat, hv]
      exact hk

theorem exCode_ev : ∀ (code : Code) (an : Ann) {R : Type} (c : Nat → Slots → AH → Option R) (ck : Nat → Nat → Slots → AH → Option R) (r : R) (s : Slots) (h : AH),
    exCode E (run E) loopL an code s h c = some r → (∀ e s h, c e s h = some r → Ev fun k => ck k e s h = some r) → Ev fun k => exCode E (exCall E k) (loopF k) an code s h (ck k) = some r := by
  intro code
  induction code with
  | skip => intro an R c ck r s h hx hc; cases an <;> exact hc 0 s h hx
  | region id ops d =>
    intro an R c ck r s h hx hc
    cases d with
    | false =>
      have hx : exOps E (run E) ops.toList ops.toList s h (c 0) = some r := by cases an <;> exact hx
      have := exOps_ev (ck := fun k => ck k 0) (hc 0) _ _ _ hx
      cases an <;> exact this
    | true =>
      have hx : cond (regOk ops.toList (befs [] ops.toList) 0 ops.toList) (exD E (run E) ops.toList (befs [] ops.toList) ops.toList 0 s h [] [] [] (c 0)) none = some r := by cases an <;> exact hx
      cases hok : regOk ops.toList (befs [] ops.toList) 0 ops.toList with
      | false => rw [hok] at hx; cases hx
      | true =>
        rw [hok] at hx
        simp only [cond_true] at hx
        have := exD_ev (ck := fun k => ck k 0) (hc 0) _ _ _ _ _ _ _ hx
        refine this.mono fun k hk => ?_
        cases an <;> (simp only [exCode]; rw [hok]; exact hk)
  | seq x y ihx ihy =>
    intro an R c ck r s h hx hc
    cases an with
    | seq j p q =>
      cases j with
      | none =>
        simp only [exCode] at hx ⊢
        refine ihx p _ (fun k e s' h' => match e with
          | 0 => exCode E (exCall E k) (loopF k) q y s' h' (ck k)
          | e + 1 => ck k (e + 1) s' h') r s h hx fun e s' h' he => ?_
        match e, he with
        | 0, he => exact ihy q c ck r s' h' he hc
        | e + 1, he => exact hc (e + 1) s' h' he
      | some sh =>
        simp only [exCode] at hx ⊢
        cases hp : exCode E (run E) loopL p x s h (joinC sh c) with
        | none => rw [hp] at hx; cases hx
        | some pr =>
          rw [hp] at hx
          simp only [Option.bind_some] at hx
          have h1 := ihx p _ (fun k => joinC sh (ck k)) pr s h hp fun e s' h' he => by
              match e, he with
              | 0, he => exact Ev.of fun k => he
              | e + 1, he =>
                simp only [joinC] at he ⊢
                cases hc1 : c (e + 1) s' h' with
                | none => rw [hc1] at he; cases he
                | some r' =>
                  rw [hc1] at he
                  injection he with he
                  subst he
                  simp only [joinK] at hx
                  injection hx with hx
                  subst hx
                  exact (hc _ _ _ hc1).mono fun k hk => by rw [hk]; rfl
          have h2 : Ev fun k => joinK pr (fun q' => lay sh q'.1 fun s' => exCode E (exCall E k) (loopF k) q y s' q'.2 (ck k)) = some r := by
            cases pr with
            | inr r' => exact Ev.of fun k => hx
            | inl q' => exact lay_ev _ _ _ _ _ hx fun s' hs' => ihy q c ck r s' _ hs' hc
          refine (h1.and h2).mono fun k hk => ?_
          rw [hk.1]
          exact hk.2
    | leaf => simp only [exCode] at hx; cases hx
    | cond => simp only [exCode] at hx; cases hx
    | block => simp only [exCode] at hx; cases hx
    | loop => simp only [exCode] at hx; cases hx
  | cond b x y ihx ihy =>
    intro an R c ck r s h hx hc
    cases an with
    | cond p q =>
      simp only [exCode] at hx ⊢
      split at hx
      · rename_i t hb
        cases t with
        | true => rw [if_pos rfl] at hx; exact (ihx p c ck r s h hx hc).mono fun k hk => by rw [if_pos rfl]; exact hk
        | false => rw [if_neg (by decide)] at hx; exact (ihy q c ck r s h hx hc).mono fun k hk => by rw [if_neg (by decide)]; exact hk
      · cases hx
    | leaf => simp only [exCode] at hx; cases hx
    | seq => simp only [exCode] at hx; cases hx
    | block => simp only [exCode] at hx; cases hx
    | loop => simp only [exCode] at hx; cases hx
  | block id x ih =>
    intro an R c ck r s h hx hc
    cases an with
    | block p =>
      simp only [exCode] at hx ⊢
      refine ih p _ (fun k e s' h' => cond (Nat.beq e (id + 2)) (ck k 0 s' h') (ck k e s' h')) r s h hx fun e s' h' he => ?_
      cases hb : Nat.beq e (id + 2) with
      | true => rw [hb] at he; exact hc 0 s' h' he
      | false => rw [hb] at he; exact hc e s' h' he
    | leaf => simp only [exCode] at hx; cases hx
    | seq => simp only [exCode] at hx; cases hx
    | cond => simp only [exCode] at hx; cases hx
    | loop => simp only [exCode] at hx; cases hx
  | loop x ih =>
    intro an R c ck r s h hx hc
    cases an with
    | loop s1 es p =>
      simp only [exCode] at hx ⊢
      cases hb : Nat.beq s.length s1.length with
      | false => rw [hb] at hx; cases hx
      | true =>
        rw [hb] at hx
        simp only [cond_true] at hx ⊢
        let body : Nat → Body := fun k l h => lay s1 l fun s' => exCode E (exCall E k) (loopF k) p x s' h (keepK s1 es)
        let bodyL : Body := fun l h => lay s1 l fun s' => exCode E (run E) loopL p x s' h (keepK s1 es)
        have hbody : ∀ s h p1, bodyL s h = some p1 → Ev fun k => body k s h = some p1 := fun s' h' p1 hp1 =>
          lay_ev s1 s' _ (fun k s' => exCode E (exCall E k) (loopF k) p x s' h' (keepK s1 es)) p1 hp1 fun s2 hs2 =>
            ih p _ (fun k => keepK s1 es) p1 s2 h' hs2 fun e s3 h3 he => Ev.of fun _ => he
        have hrounds : ∀ n s h pr, loopF n bodyL s h = some pr → Ev fun k => loopF n (body k) s h = some pr := by
          intro n
          induction n with
          | zero => intro s h pr hx; cases hx
          | succ n ihn =>
            intro s h pr hx
            simp only [loopF] at hx ⊢
            cases hb1 : bodyL s h with
            | none => rw [hb1] at hx; cases hx
            | some p1 =>
              rw [hb1] at hx
              simp only [Option.bind_some] at hx
              by_cases h0 : p1.1 = 0
              · rw [if_pos h0] at hx
                refine ((hbody s h p1 hb1).and (ihn _ _ _ hx)).mono fun k hk => ?_
                rw [hk.1]
                simp only [Option.bind_some]
                rw [if_pos h0]
                exact hk.2
              · rw [if_neg h0] at hx
                refine (hbody s h p1 hb1).mono fun k hk => ?_
                rw [hk]
                simp only [Option.bind_some]
                rw [if_neg h0]
                exact hx
        cases hp : loopL bodyL (keep s1 s) h with
        | none => rw [show (loopL (fun l h => lay s1 l fun s' => exCode E (run E) loopL p x s' h (keepK s1 es)) (keep s1 s) h) = none from hp] at hx; cases hx
        | some pr =>
          rw [show (loopL (fun l h => lay s1 l fun s' => exCode E (run E) loopL p x s' h (keepK s1 es)) (keep s1 s) h) = some pr from hp] at hx
          simp only [Option.bind_some] at hx
          obtain ⟨n, hn⟩ := (loopL_iff.1 hp).one
          have h1 : Ev fun k => loopF k (body k) (keep s1 s) h = some pr := by
            obtain ⟨k0, hk0⟩ := hrounds n _ h pr hn
            exact ⟨max n k0, fun k hk => loopF_le (by omega) (hk0 k (by omega))⟩
          have h2 : Ev fun k => disp es pr.1 pr.2.1 pr.2.2 (ck k) = some r := by
            have key : ∀ es : List (Nat × Shape), disp es pr.1 pr.2.1 pr.2.2 c = some r → Ev fun k => disp es pr.1 pr.2.1 pr.2.2 (ck k) = some r := by
              intro es
              induction es with
              | nil => intro hx; cases hx
              | cons p es ihe =>
                intro hx
                obtain ⟨e, sh⟩ := p
                simp only [disp] at hx ⊢
                by_cases he : pr.1 = e
                · rw [if_pos he] at hx
                  refine (lay_ev sh _ _ (fun k s' => ck k e s' pr.2.2) r hx fun s' hs' => hc _ _ _ hs').mono fun k hk => ?_
                  rw [if_pos he]; exact hk
                · rw [if_neg he] at hx
                  exact (ihe hx).mono fun k hk => by rw [if_neg he]; exact hk
            exact key es hx
          refine (h1.and h2).mono fun k hk => ?_
          rw [show (loopF k (fun l h => lay s1 l fun s' => exCode E (exCall E k) (loopF k) p x s' h (keepK s1 es)) (keep s1 s) h) = some pr from hk.1]
          exact hk.2
    | leaf => simp only [exCode] at hx; cases hx
    | seq => simp only [exCode] at hx; cases hx
    | cond => simp only [exCode] at hx; cases hx
    | block => simp only [exCode] at hx; cases hx
  | exit id =>
    intro an R c ck r s h hx hc
    have hx : c (id + 2) s h = some r := by cases an <;> exact hx
    have := hc _ _ _ hx
    cases an <;> exact this
  | ret =>
    intro an R c ck r s h hx hc
    have hx : c 1 s h = some r := by cases an <;> exact hx
    have := hc _ _ _ hx
    cases an <;> exact this
  | _ =>
    intro an R c ck r s h hx hc
    cases an <;> (simp only [exCode] at hx; cases hx)
end

theorem run_intro {E : Env} {f : Nat} {fn : Func} {an : Ann} (hf : E.P.funcs[f]? = some fn) (ha : E.an f = some an) {args : List Value} {h : AH} {r : Value × AH} (hx : exFun E (run E) loopL an fn args h = some r) : run E f args h = some r := by
  rw [run_iff]
  have key : Ev fun k => exFun E (exCall E k) (loopF k) an fn args h = some r := by
    unfold exFun at hx ⊢
    cases hb : fn.body with
    | none => rw [hb] at hx; cases hx
    | some b =>
      rw [hb] at hx
      exact exCode_ev b an _ (fun _ e s h' => if e ≤ 1 then exResults E s h' fn.results.toList fun vs => some (mkRes vs, h') else none) r _ _ hx fun e s h he => Ev.of fun _ => he
  obtain ⟨k0, hk⟩ := key
  refine ⟨k0 + 1, fun k hkk => ?_⟩
  obtain ⟨k', rfl⟩ : ∃ k', k = k' + 1 := ⟨k - 1, by omega⟩
  simp only [exCall, hf, ha]
  exact hk k' (by omega)

theorem run_sound {E : Env} (hE : EnvOk E) (w0 : World) : RecOk E w0 (run E) := fun f args h v h' hx => by
  obtain ⟨k, hk⟩ := (run_iff.1 hx).one
  exact exCall_sound hE w0 k f args h v h' hk
end Go.Proofs.Ytgigdaijailfkaa.Am
