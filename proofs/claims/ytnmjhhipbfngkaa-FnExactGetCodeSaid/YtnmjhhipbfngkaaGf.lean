/- The reference's GetCode.
Conditions: none. -/
import Derived.Test.YtnmjhhipbfngkaaGe
set_option linter.unusedSimpArgs false
set_option linter.unusedVariables false
namespace Go.Proofs.Ytnmjhhipbfngkaa.Am
open Go Go.RowKit

/-- A number off the reader. -/
def numS (zs : List Int) (a : Int) (bad : Bool) : Int × Int × Bool := if bad = true then (0, a, true) else match gnL zs a 4 0 0 with
  | some (n, e) => (n, e, false)
  | none => (0, a, true)
abbrev rdV (a0 : Option Addr) (n : Nat) (a : Int) (bad : Bool) : List Value := [.slice a0 n n, .int .i64 a, .bool bad]
theorem l13Num_run {base rb : Nat} {h : AH} {zs : List Int} {a0 : Option Addr} {a : Int} {bad : Bool} (hz : ∀ z ∈ zs, 0 ≤ z ∧ z ≤ 255) (hl : zs.length ≤ 1048576) (hs : Sl h a0 (iv .u8 zs)) (ha : a ≤ 9223372036854775807) (o : Own base 122 h (at0 rb) (rdV a0 zs.length a bad)) :
    ∃ h', run (Et base) 84 [.pointer (at0 rb)] h = some (.int .i64 (numS zs a bad).1, h') ∧ Own base 122 h' (at0 rb) (rdV a0 zs.length (numS zs a bad).2.1 (numS zs a bad).2.2) ∧ KB (· = rb) h h' ∧ h'.length = h.length := by
  have hg := specGet_run (base := base) (at_ := a) hs hz (by omega) ha
  have sb : ∃ h', Am.wr base h rb (0 + 2) [.bool true] = some h' ∧ Own base 122 h' (at0 rb) (rdV a0 zs.length a true) ∧ KB (· = rb) h h' ∧ h'.length = h.length := by
    obtain ⟨h', e, o', k, l⟩ := o.wr0 (i := 2) (new := [.bool true]) (by simp) (by simp)
    exact ⟨h', e, o', k.mono fun b _ hb => by omega, l⟩
  have rd : ∀ {n e : Int} {b : Bool} {r : Value × AH}, gnV (gnL zs a 4 0 0) = .tuple #[.int .i64 n, .int .i64 e, .bool b] → ((if (bad || !b) = true then
      ((at0 rb)).bind fun a17 =>
      (Am.wr base h a17.block (a17.off + 2) [(.bool true)]).bind fun h18 =>
      some (Value.int .i64 (0 : Int), h18)
      else
      ((at0 rb)).bind fun a19 =>
      (Am.wr base h a19.block (a19.off + 1) [(.int .i64 e)]).bind fun h20 =>
      some (Value.int .i64 n, h20)) = some r) → run (Et base) 84 [.pointer (at0 rb)] h = some r := by
    intro n e b r hv hr
    rw [hv] at hg
    refine r84 (bs rfl (bS (o.at0 (i := 0) rfl) (bs rfl (bI (o.at0 (i := 1) rfl) (bs hg (bs rfl (bI rfl (bI rfl (bB rfl ?_)))))))))
    refine bj (q := ([some (.pointer (at0 rb)), some (.int .i64 n), some (.int .i64 e), some (.bool (bad || !b))], h)) ?_ (bs rfl (bI rfl (bI rfl (bB rfl hr))))
    refine bs rfl (bB (o.at0 (i := 2) rfl) ?_)
    cases bad with
    | true => exact ifT rfl rfl
    | false => exact ifF (by decide) rfl
  obtain ⟨hb, eb, ob, kb, lb⟩ := sb
  unfold numS
  cases bad with
  | true =>
    rw [if_pos rfl]
    cases hr : gnL zs a 4 0 0 with
    | none => exact ⟨hb, rd (by rw [hr]; rfl) (ifT rfl (bs rfl (bs eb rfl))), ob, kb, lb⟩
    | some p => exact ⟨hb, rd (by rw [hr]; rfl) (ifT rfl (bs rfl (bs eb rfl))), ob, kb, lb⟩
  | false =>
    rw [if_neg (by decide)]
    cases hr : gnL zs a 4 0 0 with
    | none => exact ⟨hb, rd (by rw [hr]; rfl) (ifT rfl (bs rfl (bs eb rfl))), ob, kb, lb⟩
    | some p =>
      obtain ⟨n, e⟩ := p
      obtain ⟨h', e', o', k, l⟩ := o.wr0 (i := 1) (new := [.int .i64 e]) (by simp) (by simp)
      exact ⟨h', rd (by rw [hr]; rfl) (ifF (by decide) (bs rfl (bs e' rfl))), o', k.mono fun b _ hb => by omega, l⟩

theorem numS_bad (zs : List Int) (a : Int) : numS zs a true = (0, a, true) := rfl
theorem numS_some {zs : List Int} {a n e : Int} (h : gnL zs a 4 0 0 = some (n, e)) : numS zs a false = (n, e, false) := by unfold numS; rw [if_neg (by decide), h]
theorem numS_none {zs : List Int} {a : Int} (h : gnL zs a 4 0 0 = none) : numS zs a false = (0, a, true) := by unfold numS; rw [if_neg (by decide), h]

theorem numS_rng {zs : List Int} (hz : ∀ z ∈ zs, 0 ≤ z ∧ z ≤ 255) {a : Int} {bad : Bool} (h0 : 0 ≤ a) (h1 : a ≤ (zs.length : Int)) : 0 ≤ (numS zs a bad).2.1 ∧ (numS zs a bad).2.1 ≤ (zs.length : Int) := by
  cases bad with
  | true => exact ⟨h0, h1⟩
  | false =>
    cases hr : gnL zs a 4 0 0 with
    | none => rw [numS_none hr]; exact ⟨h0, h1⟩
    | some p =>
      obtain ⟨n, e⟩ := p
      rw [numS_some hr]
      obtain ⟨k, rfl⟩ : ∃ k : Nat, a = (k : Int) := ⟨a.toNat, by omega⟩
      obtain ⟨e', rfl, g1, g2, _⟩ := gn_split hz (by omega) hr
      exact ⟨(by show (0 : Int) ≤ (e' : Int); omega), (by show (e' : Int) ≤ (zs.length : Int); omega)⟩
def nx (zs : List Int) (p : Int × Int × Bool) : Int × Int × Bool := numS zs p.2.1 p.2.2
theorem nx_bad {zs : List Int} {p : Int × Int × Bool} (h : p.2.2 = true) : (nx zs p).2.2 = true := by unfold nx; rw [h]; rfl
theorem six_num {zs : List Int} {a : Int} : match sixL zs 6 a [] with
    | some (vs, e) => vs = [(numS zs a false).1, (nx zs (numS zs a false)).1, (nx zs (nx zs (numS zs a false))).1, (nx zs (nx zs (nx zs (numS zs a false)))).1, (nx zs (nx zs (nx zs (nx zs (numS zs a false))))).1, (nx zs (nx zs (nx zs (nx zs (nx zs (numS zs a false)))))).1] ∧
        (nx zs (nx zs (nx zs (nx zs (nx zs (numS zs a false)))))).2 = (e, false)
    | none => (nx zs (nx zs (nx zs (nx zs (nx zs (numS zs a false)))))).2.2 = true := by
  rw [sixL]
  cases h1 : gnL zs a 4 0 0 with
  | none => rw [numS_none h1]; exact nx_bad (nx_bad (nx_bad (nx_bad (nx_bad rfl))))
  | some p1 =>
    obtain ⟨n1, e1⟩ := p1
    rw [numS_some h1]
    simp only
    rw [sixL]
    cases h2 : gnL zs e1 4 0 0 with
    | none => rw [show nx zs (n1, e1, false) = _ from numS_none h2]; exact nx_bad (nx_bad (nx_bad (nx_bad rfl)))
    | some p2 =>
      obtain ⟨n2, e2⟩ := p2
      rw [show nx zs (n1, e1, false) = _ from numS_some h2]
      simp only
      rw [sixL]
      cases h3 : gnL zs e2 4 0 0 with
      | none => rw [show nx zs (n2, e2, false) = _ from numS_none h3]; exact nx_bad (nx_bad (nx_bad rfl))
      | some p3 =>
        obtain ⟨n3, e3⟩ := p3
        rw [show nx zs (n2, e2, false) = _ from numS_some h3]
        simp only
        rw [sixL]
        cases h4 : gnL zs e3 4 0 0 with
        | none => rw [show nx zs (n3, e3, false) = _ from numS_none h4]; exact nx_bad (nx_bad rfl)
        | some p4 =>
          obtain ⟨n4, e4⟩ := p4
          rw [show nx zs (n3, e3, false) = _ from numS_some h4]
          simp only
          rw [sixL]
          cases h5 : gnL zs e4 4 0 0 with
          | none => rw [show nx zs (n4, e4, false) = _ from numS_none h5]; exact nx_bad rfl
          | some p5 =>
            obtain ⟨n5, e5⟩ := p5
            rw [show nx zs (n4, e4, false) = _ from numS_some h5]
            simp only
            rw [sixL]
            cases h6 : gnL zs e5 4 0 0 with
            | none => rw [show nx zs (n5, e5, false) = _ from numS_none h6]
            | some p6 =>
              obtain ⟨n6, e6⟩ := p6
              rw [show nx zs (n5, e5, false) = _ from numS_some h6]
              exact ⟨rfl, rfl⟩

theorem l13Ins_run {base rb : Nat} {h : AH} {zs : List Int} {a0 : Option Addr} {a : Nat} (hz : ∀ z ∈ zs, 0 ≤ z ∧ z ≤ 255) (hl : zs.length ≤ 1048576) (hs : Sl h a0 (iv .u8 zs)) (hty : TyOk base h a0 5) (hne : ∀ b, blk a0 b → b ≠ rb) (ha : a ≤ zs.length) (o : Own base 122 h (at0 rb) (rdV a0 zs.length (a : Int) false)) (hb : base ≤ h.length) :
    ∃ x a' bad' h', run (Et base) 85 [.pointer (at0 rb)] h = some (.agg (inV x).toArray, h') ∧ Own base 122 h' (at0 rb) (rdV a0 zs.length a' bad') ∧ KB (· = rb) h h' ∧ x.s.size ≤ 12 ∧
      (match sixL zs 6 (a : Int) [] with
        | some (vs, e) => if (inB (vs.getD 5 0) 0 12 && !decide (vs.getD 5 0 > (zs.length : Int) - e)) = true then bad' = false ∧ a' = e + vs.getD 5 0 ∧ x = mkIn zs vs e else bad' = true
        | none => bad' = true) := by
  have hrb := (o.lt (blk_at0.2 rfl)).2
  obtain ⟨o1, k1, q1⟩ := box_own (base := base) (t := 116) (h := h) (cs := inV ⟨0, 0, 0, 0, 0, ⟨#[]⟩⟩) hb rfl
  generalize hh1 : h ++ [some (⟨inV ⟨0, 0, 0, 0, 0, ⟨#[]⟩⟩, 116⟩ : Blk)] = h1 at o1 k1 q1
  have num : ∀ {hh : AH} {p : Int × Int × Bool} {S : Nat → Prop}, KB S h hh → (∀ b, S b → b = rb ∨ h.length ≤ b) → Own base 122 hh (at0 rb) (rdV a0 zs.length p.2.1 p.2.2) → 0 ≤ p.2.1 → p.2.1 ≤ (zs.length : Int) →
      ∃ h', run (Et base) 84 [.pointer (at0 rb)] hh = some (.int .i64 (nx zs p).1, h') ∧ Own base 122 h' (at0 rb) (rdV a0 zs.length (nx zs p).2.1 (nx zs p).2.2) ∧ KB (· = rb) hh h' ∧ h'.length = hh.length ∧ 0 ≤ (nx zs p).2.1 ∧ (nx zs p).2.1 ≤ (zs.length : Int) ∧ KB (fun b => b = rb ∨ h.length ≤ b) h h' := by
    intro hh p S kk hS oo h0 h1
    obtain ⟨h', e, o', k, l⟩ := l13Num_run (base := base) (a := p.2.1) (bad := p.2.2) hz hl (hs.keep kk fun b hb hk => by have := hne b hb; have := hS b hk; obtain ⟨ad, e, eb⟩ := hb; have := (hty ad e).1; omega) (by omega) oo
    have rg := numS_rng hz (a := p.2.1) (bad := p.2.2) h0 h1
    exact ⟨h', e, o', k, l, rg.1, rg.2, KB.trans kk k (fun b _ h => hS b h) (fun b _ h => .inl h)⟩
  obtain ⟨h2, e2, w2, k2, l2, g2, g2', K2⟩ := num (p := (0, (a : Int), false)) k1 (fun b h => h.elim) (o.keepN k1) (by simp) (by simp; omega)
  have hp1 : nx zs (0, (a : Int), false) = numS zs (a : Int) false := rfl
  rw [hp1] at e2 w2 g2 g2'
  have six := six_num (zs := zs) (a := (a : Int))
  generalize numS zs (a : Int) false = p1 at e2 w2 g2 g2' six
  obtain ⟨o4, k4, q4⟩ := box_own (base := base) (t := 116) (h := h2) (cs := inV ⟨0, 0, 0, 0, 0, ⟨#[]⟩⟩) (by omega) rfl
  generalize hh4 : h2 ++ [some (⟨inV ⟨0, 0, 0, 0, 0, ⟨#[]⟩⟩, 116⟩ : Blk)] = h4 at o4 k4 q4
  obtain ⟨h5, e5, o5, k5, l5⟩ := o4.wr0 (i := 0) (new := inV ⟨p1.1, 0, 0, 0, 0, ⟨#[]⟩⟩) (by simp) (by simp)
  have hz5 : setAt (inV ⟨0, 0, 0, 0, 0, ⟨#[]⟩⟩) 0 (inV ⟨p1.1, 0, 0, 0, 0, ⟨#[]⟩⟩) = inV ⟨p1.1, 0, 0, 0, 0, ⟨#[]⟩⟩ := rfl
  rw [hz5] at o5
  have k25 : KB NoB h2 h5 := kFresh k4 k5 fun i hi => by omega
  have K5 : KB (fun b => b = rb ∨ h.length ≤ b) h h5 := KB.trans K2 k25 (fun _ _ h => h) (fun _ _ h => h.elim)
  have lift : ∀ {ha hb : AH} {x : In}, KB (· = rb) ha hb → Own base 116 ha (at0 h2.length) (inV x) → Own base 116 hb (at0 h2.length) (inV x) := fun k o => o.keep k fun b hb hk => by rw [blk_at0] at hb; omega
  have liftR : ∀ {ha hb : AH} {vs : List Value}, KB (· = h2.length) ha hb → Own base 122 ha (at0 rb) vs → Own base 122 hb (at0 rb) vs := fun k o => o.keep k fun b hb hk => by rw [blk_at0] at hb; omega
  have step : ∀ {ha hb : AH}, KB (fun b => b = rb ∨ h.length ≤ b) h ha → KB (· = h2.length) ha hb → KB (fun b => b = rb ∨ h.length ≤ b) h hb := fun k k' => KB.trans k k' (fun _ _ h => h) (fun b _ hb => .inr (by omega))
  obtain ⟨h6, e6, w6, k6, l6, g6, g6', K6⟩ := num (p := p1) K5 (fun b h => h) (w2.keepN k25) g2 g2'
  generalize nx zs p1 = p2 at e6 w6 g6 g6' six
  obtain ⟨h8, e8, o8, k8, l8⟩ := (lift k6 o5).wr0 (i := 1) (new := [.int .i64 p2.1]) (by simp) (by simp)
  have hz8 : setAt (inV ⟨p1.1, 0, 0, 0, 0, ⟨#[]⟩⟩) 1 [.int .i64 p2.1] = inV ⟨p1.1, p2.1, 0, 0, 0, ⟨#[]⟩⟩ := rfl
  rw [hz8] at o8
  have K8 := step K6 (k8.mono fun b _ hb => by omega)
  obtain ⟨h9, e9, w9, k9, l9, g9, g9', K9⟩ := num (p := p2) K8 (fun b h => h) (liftR (k8.mono fun b _ hb => by omega) w6) g6 g6'
  generalize nx zs p2 = p3 at e9 w9 g9 g9' six
  obtain ⟨h11, e11, o11, k11, l11⟩ := (lift k9 o8).wr0 (i := 2) (new := [.int .i64 p3.1]) (by simp) (by simp)
  have hz11 : setAt (inV ⟨p1.1, p2.1, 0, 0, 0, ⟨#[]⟩⟩) 2 [.int .i64 p3.1] = inV ⟨p1.1, p2.1, p3.1, 0, 0, ⟨#[]⟩⟩ := rfl
  rw [hz11] at o11
  have K11 := step K9 (k11.mono fun b _ hb => by omega)
  obtain ⟨h12, e12, w12, k12, l12, g12, g12', K12⟩ := num (p := p3) K11 (fun b h => h) (liftR (k11.mono fun b _ hb => by omega) w9) g9 g9'
  generalize nx zs p3 = p4 at e12 w12 g12 g12' six
  obtain ⟨h14, e14, o14, k14, l14⟩ := (lift k12 o11).wr0 (i := 3) (new := [.int .i64 p4.1]) (by simp) (by simp)
  have hz14 : setAt (inV ⟨p1.1, p2.1, p3.1, 0, 0, ⟨#[]⟩⟩) 3 [.int .i64 p4.1] = inV ⟨p1.1, p2.1, p3.1, p4.1, 0, ⟨#[]⟩⟩ := rfl
  rw [hz14] at o14
  have K14 := step K12 (k14.mono fun b _ hb => by omega)
  obtain ⟨h15, e15, w15, k15, l15, g15, g15', K15⟩ := num (p := p4) K14 (fun b h => h) (liftR (k14.mono fun b _ hb => by omega) w12) g12 g12'
  generalize nx zs p4 = p5 at e15 w15 g15 g15' six
  obtain ⟨h17, e17, o17, k17, l17⟩ := (lift k15 o14).wr0 (i := 4) (new := [.int .i64 p5.1]) (by simp) (by simp)
  have hz17 : setAt (inV ⟨p1.1, p2.1, p3.1, p4.1, 0, ⟨#[]⟩⟩) 4 [.int .i64 p5.1] = inV ⟨p1.1, p2.1, p3.1, p4.1, p5.1, ⟨#[]⟩⟩ := rfl
  rw [hz17] at o17
  have K17 := step K15 (k17.mono fun b _ hb => by omega)
  obtain ⟨h18, e18, w18, k18, l18, g18, g18', K18⟩ := num (p := p5) K17 (fun b h => h) (liftR (k17.mono fun b _ hb => by omega) w15) g15 g15'
  generalize nx zs p5 = p6 at e18 w18 g18 g18' six
  have o18 := lift k18 o17
  have o1_18 := o1.keep (KB.trans (S := fun b => b = rb ∨ h1.length ≤ b) (S' := fun b => b = rb ∨ h1.length ≤ b) (T := fun b => b = rb ∨ h1.length ≤ b) (KB.mono (k2) fun _ _ h => .inl h) (KB.trans (S := NoB) (S' := fun b => b = rb ∨ h1.length ≤ b) (T := fun b => b = rb ∨ h1.length ≤ b) k25 (KB.trans (S := fun b => b = rb ∨ h1.length ≤ b) (S' := fun b => b = rb ∨ h1.length ≤ b) (KB.trans (S := fun b => b = rb ∨ h1.length ≤ b) (S' := fun b => b = rb ∨ h1.length ≤ b) (KB.trans (S := fun b => b = rb ∨ h1.length ≤ b) (S' := fun b => b = rb ∨ h1.length ≤ b) (KB.trans (S := fun b => b = rb ∨ h1.length ≤ b) (S' := fun b => b = rb ∨ h1.length ≤ b) (KB.trans k6 k8 (fun _ _ h => .inl h) (fun _ _ h => .inr (by omega))) (KB.trans k9 k11 (fun _ _ h => .inl h) (fun _ _ h => .inr (by omega))) (fun _ _ h => h) (fun _ _ h => h)) (KB.trans k12 k14 (fun _ _ h => .inl h) (fun _ _ h => .inr (by omega))) (fun _ _ h => h) (fun _ _ h => h)) (KB.trans k15 k17 (fun _ _ h => .inl h) (fun _ _ h => .inr (by omega))) (fun _ _ h => h) (fun _ _ h => h)) (KB.mono k18 fun _ _ h => .inl h) (fun _ _ h => h) (fun _ _ h => h)) (fun _ _ h => h.elim) (fun _ _ h => h)) (fun _ _ h => h) (fun _ _ h => h)) fun b hb hk => by rw [blk_at0] at hb; omega
  have hs18 := hs.keep K18 fun b hb hk => by have := hne b hb; obtain ⟨ad, e, eb⟩ := hb; have := (hty ad e).1; omega
  have hty18 := hty.keep K18 fun b hb hk => by have := hne b hb; obtain ⟨ad, e, eb⟩ := hb; have := (hty ad e).1; omega
  have start : ∀ {B : Bool} {r : Value × AH}, B = (p6.2.2 || (!inB p6.1 0 12 || decide (p6.1 > (zs.length : Int) - p6.2.1))) → ((if B = true then
      ((at0 rb)).bind fun a34 =>
      (Am.wr base h18 a34.block (a34.off + 2) [(.bool true)]).bind fun h35 =>
      ((Am.cell h35 h2.length 0).bind (getI .i64)).bind fun n36 =>
      ((Am.cell h35 h2.length 1).bind (getI .i64)).bind fun n37 =>
      ((Am.cell h35 h2.length 2).bind (getI .i64)).bind fun n38 =>
      ((Am.cell h35 h2.length 3).bind (getI .i64)).bind fun n39 =>
      ((Am.cell h35 h2.length 4).bind (getI .i64)).bind fun n40 =>
      ((Am.cell h35 h2.length 5).bind getStr).bind fun s41 =>
      (Am.wr base h35 h.length 0 [(.int .i64 n36), (.int .i64 n37), (.int .i64 n38), (.int .i64 n39), (.int .i64 n40), (.string s41)]).bind fun h42 =>
      ((Am.cell h42 h.length 0).bind (getI .i64)).bind fun n43 =>
      ((Am.cell h42 h.length 1).bind (getI .i64)).bind fun n44 =>
      ((Am.cell h42 h.length 2).bind (getI .i64)).bind fun n45 =>
      ((Am.cell h42 h.length 3).bind (getI .i64)).bind fun n46 =>
      ((Am.cell h42 h.length 4).bind (getI .i64)).bind fun n47 =>
      ((Am.cell h42 h.length 5).bind getStr).bind fun s48 =>
      some (Value.agg #[(.int .i64 n43), (.int .i64 n44), (.int .i64 n45), (.int .i64 n46), (.int .i64 n47), (.string s48)], h42)
      else
      ((at0 rb)).bind fun a49 =>
      ((Am.cell h18 a49.block (a49.off + 0)).bind getS).bind fun l50 =>
      ((at0 rb)).bind fun a51 =>
      ((Am.cell h18 a51.block (a51.off + 1)).bind (getI .i64)).bind fun n52 =>
      ((at0 rb)).bind fun a53 =>
      ((Am.cell h18 a53.block (a53.off + 1)).bind (getI .i64)).bind fun n54 =>
      (if 0 ≤ n52 ∧ n52 ≤ (IntKind.wrap .i64 (n54 + p6.1)) ∧ (IntKind.wrap .i64 (n54 + p6.1)) ≤ ((l50.2 : Nat) : Int) ∧ okTy base h18 l50.1 5 (Int.toNat n52) = true then
      ((rawAt h18 (shiftA l50.1 (Int.toNat n52 * 1)) (Int.toNat (IntKind.wrap .i64 (n54 + p6.1)) - Int.toNat n52)).bind u8s).bind fun z55 =>
      (Am.wr base h18 h2.length 5 [(.string (bstr z55))]).bind fun h56 =>
      ((at0 rb)).bind fun a57 =>
      ((Am.cell h56 a57.block (a57.off + 1)).bind (getI .i64)).bind fun n58 =>
      ((at0 rb)).bind fun a59 =>
      (Am.wr base h56 a59.block (a59.off + 1) [(.int .i64 (IntKind.wrap .i64 (n58 + p6.1)))]).bind fun h60 =>
      ((Am.cell h60 h2.length 0).bind (getI .i64)).bind fun n61 =>
      ((Am.cell h60 h2.length 1).bind (getI .i64)).bind fun n62 =>
      ((Am.cell h60 h2.length 2).bind (getI .i64)).bind fun n63 =>
      ((Am.cell h60 h2.length 3).bind (getI .i64)).bind fun n64 =>
      ((Am.cell h60 h2.length 4).bind (getI .i64)).bind fun n65 =>
      ((Am.cell h60 h2.length 5).bind getStr).bind fun s66 =>
      (Am.wr base h60 h.length 0 [(.int .i64 n61), (.int .i64 n62), (.int .i64 n63), (.int .i64 n64), (.int .i64 n65), (.string s66)]).bind fun h67 =>
      ((Am.cell h67 h.length 0).bind (getI .i64)).bind fun n68 =>
      ((Am.cell h67 h.length 1).bind (getI .i64)).bind fun n69 =>
      ((Am.cell h67 h.length 2).bind (getI .i64)).bind fun n70 =>
      ((Am.cell h67 h.length 3).bind (getI .i64)).bind fun n71 =>
      ((Am.cell h67 h.length 4).bind (getI .i64)).bind fun n72 =>
      ((Am.cell h67 h.length 5).bind getStr).bind fun s73 =>
      some (Value.agg #[(.int .i64 n68), (.int .i64 n69), (.int .i64 n70), (.int .i64 n71), (.int .i64 n72), (.string s73)], h67)
      else none)) = some r) → run (Et base) 85 [.pointer (at0 rb)] h = some r := by
    intro B r hB hr
    refine r85 (lets fun y ey => ?_)
    rw [hh1] at ey
    subst ey
    refine bs e2 (bI rfl (lets fun y ey => ?_))
    rw [hh4] at ey
    subst ey
    refine bs e5 (bs e6 (bI rfl (bs e8 (bs e9 (bI rfl (bs e11 (bs e12 (bI rfl (bs e14 (bs e15 (bI rfl (bs e17 (bs e18 (bI rfl ?_))))))))))))))
    refine bj (q := ([some (.pointer (at0 rb)), some (.pointer (at0 h.length)), some (.pointer (at0 h2.length)), some (.int .i64 p6.1), some (.bool B)], h18)) ?_ (bs rfl (bs rfl (bs rfl (bI rfl (bB rfl hr)))))
    refine bs rfl (bB (w18.at0 (i := 2) rfl) ?_)
    rw [hB]
    cases c1 : p6.2.2 with
    | true => exact ifT rfl rfl
    | false =>
      refine ifF (by decide) (bs l1In_run (bB rfl ?_))
      cases c2 : inB p6.1 0 12 with
      | false => exact ifT rfl rfl
      | true =>
        refine ifF (by decide) (bs rfl (bS (w18.at0 (i := 0) rfl) (bs rfl (bI (w18.at0 (i := 1) rfl) ?_))))
        rw [w64i (by omega) (by omega)]
        rfl
  have kfin : ∀ {hx : AH} {S : Nat → Prop}, KB S h18 hx → (∀ b, S b → b = rb ∨ h.length ≤ b) → KB (· = rb) h hx := fun k hS => KB.trans K18 k (fun b hb h => by omega) (fun b hb h => by have := hS b h; omega)
  by_cases c : (p6.2.2 || (!inB p6.1 0 12 || decide (p6.1 > (zs.length : Int) - p6.2.1))) = true
  · obtain ⟨h35, e35, o35, k35, l35⟩ := w18.wr0 (i := 2) (new := [.bool true]) (by simp) (by simp)
    have hz35 : setAt (rdV a0 zs.length p6.2.1 p6.2.2) 2 [.bool true] = rdV a0 zs.length p6.2.1 true := rfl
    rw [hz35] at o35
    have ox := o18.keep k35 fun b hb hk => by rw [blk_at0] at hb; omega
    obtain ⟨h42, e42, o42, k42, l42⟩ := (o1_18.keep k35 fun b hb hk => by rw [blk_at0] at hb; omega).wr0 (i := 0) (new := inV ⟨p1.1, p2.1, p3.1, p4.1, p5.1, ⟨#[]⟩⟩) (by simp) (by simp)
    have hz42 : setAt (inV ⟨0, 0, 0, 0, 0, ⟨#[]⟩⟩) 0 (inV ⟨p1.1, p2.1, p3.1, p4.1, p5.1, ⟨#[]⟩⟩) = inV ⟨p1.1, p2.1, p3.1, p4.1, p5.1, ⟨#[]⟩⟩ := rfl
    rw [hz42] at o42
    refine ⟨⟨p1.1, p2.1, p3.1, p4.1, p5.1, ⟨#[]⟩⟩, p6.2.1, true, h42, start (B := true) c.symm (ifT rfl (bs rfl (bs e35 (qi ox (bs e42 (qi o42 rfl)))))), o35.keep k42 fun b hb hk => by rw [blk_at0] at hb; omega, kfin (KB.trans k35 k42 (T := fun b => b = rb ∨ h.length ≤ b) (fun _ _ h => by omega) (fun _ _ h => by omega)) (fun b h => h), (show (0 : Nat) ≤ 12 from by decide), ?_⟩
    cases h6 : sixL zs 6 (a : Int) [] with
    | none => rfl
    | some q =>
      obtain ⟨vs, e⟩ := q
      rw [h6] at six
      obtain ⟨rfl, s2⟩ := six
      have e5' : [p1.1, p2.1, p3.1, p4.1, p5.1, p6.1].getD 5 0 = p6.1 := rfl
      simp only [e5']
      rw [s2] at c
      simp only at c
      rw [if_neg (by
        intro hc
        simp only [Bool.and_eq_true, Bool.not_eq_true'] at hc
        rw [hc.1, hc.2] at c
        exact absurd c (by decide))]
      trivial
  · have c' : (p6.2.2 || (!inB p6.1 0 12 || decide (p6.1 > (zs.length : Int) - p6.2.1))) = false := by simpa using c
    have c3 : p6.2.2 = false ∧ inB p6.1 0 12 = true ∧ ¬ p6.1 > (zs.length : Int) - p6.2.1 := by
      simp only [Bool.or_eq_false_iff, Bool.not_eq_false', decide_eq_false_iff_not] at c'
      exact ⟨c'.1, c'.2.1, c'.2.2⟩
    obtain ⟨c31, c32, c33⟩ := c3
    have c32' := c32
    simp only [inB, Bool.and_eq_true, decide_eq_true_eq] at c32'
    obtain ⟨k5, hk5⟩ : ∃ k5 : Nat, p6.1 = (k5 : Int) := ⟨p6.1.toNat, by omega⟩
    obtain ⟨e2', he2⟩ : ∃ e2' : Nat, p6.2.1 = (e2' : Int) := ⟨p6.2.1.toNat, by omega⟩
    have hle2 : e2' + k5 ≤ zs.length := by omega
    have hw : IntKind.wrap .i64 (p6.2.1 + p6.1) = p6.2.1 + p6.1 := w64i (by omega) (by omega)
    obtain ⟨h56, e56, o56, k56, l56⟩ := o18.wr0 (i := 5) (new := [.string (bstr ((zs.drop e2').take k5))]) (by simp) (by simp)
    have hz56 : setAt (inV ⟨p1.1, p2.1, p3.1, p4.1, p5.1, ⟨#[]⟩⟩) 5 [.string (bstr ((zs.drop e2').take k5))] = inV ⟨p1.1, p2.1, p3.1, p4.1, p5.1, bstr ((zs.drop e2').take k5)⟩ := rfl
    rw [hz56] at o56
    have w56 := w18.keep k56 fun b hb hk => by rw [blk_at0] at hb; omega
    obtain ⟨h60, e60, o60, k60, l60⟩ := w56.wr0 (i := 1) (new := [.int .i64 (p6.2.1 + p6.1)]) (by simp) (by simp)
    have hz60 : setAt (rdV a0 zs.length p6.2.1 p6.2.2) 1 [.int .i64 (p6.2.1 + p6.1)] = rdV a0 zs.length (p6.2.1 + p6.1) p6.2.2 := rfl
    rw [hz60] at o60
    have ox := o56.keep k60 fun b hb hk => by rw [blk_at0] at hb; omega
    obtain ⟨h67, e67, o67, k67, l67⟩ := ((o1_18.keep k56 fun b hb hk => by rw [blk_at0] at hb; omega).keep k60 fun b hb hk => by rw [blk_at0] at hb; omega).wr0 (i := 0) (new := inV ⟨p1.1, p2.1, p3.1, p4.1, p5.1, bstr ((zs.drop e2').take k5)⟩) (by simp) (by simp)
    have hz67 : setAt (inV ⟨0, 0, 0, 0, 0, ⟨#[]⟩⟩) 0 (inV ⟨p1.1, p2.1, p3.1, p4.1, p5.1, bstr ((zs.drop e2').take k5)⟩) = inV ⟨p1.1, p2.1, p3.1, p4.1, p5.1, bstr ((zs.drop e2').take k5)⟩ := rfl
    rw [hz67] at o67
    have kall : KB (fun b => b = rb ∨ h.length ≤ b) h18 h67 := KB.trans (KB.trans (T := fun b => b = rb ∨ h.length ≤ b) k56 k60 (fun _ _ h => by omega) (fun _ _ h => by omega)) k67 (fun _ _ h => h) (fun _ _ h => by omega)
    refine ⟨⟨p1.1, p2.1, p3.1, p4.1, p5.1, bstr ((zs.drop e2').take k5)⟩, p6.2.1 + p6.1, p6.2.2, h67, start (B := false) c'.symm (ifF (by decide) (bs rfl (bS (w18.at0 (i := 0) rfl) (bs rfl (bI (w18.at0 (i := 1) rfl) (bs rfl (bI (w18.at0 (i := 1) rfl) ?_))))))), o60.keep k67 fun b hb hk => by rw [blk_at0] at hb; omega, kfin kall (fun b h => h), by simp only [bstr_size, List.length_take]; omega, ?_⟩
    · rw [hw]
      refine ifT ⟨g18, by omega, by omega, hty18.ok _⟩ ?_
      rw [show Int.toNat (p6.2.1 + p6.1) - Int.toNat p6.2.1 = k5 from by omega, show Int.toNat p6.2.1 = e2' from by omega]
      refine bs (part_iv hs18 hle2) (bs e56 (bs rfl (bI (w56.at0 (i := 1) rfl) (bs rfl ?_))))
      rw [hw]
      exact bs e60 (qi ox (bs e67 (qi o67 rfl)))
    · cases h6 : sixL zs 6 (a : Int) [] with
      | none =>
        rw [h6] at six
        simp only at six
        rw [six] at c31
        cases c31
      | some q =>
        obtain ⟨vs, e⟩ := q
        rw [h6] at six
        obtain ⟨rfl, s2⟩ := six
        have e5' : [p1.1, p2.1, p3.1, p4.1, p5.1, p6.1].getD 5 0 = p6.1 := rfl
        have ee : p6.2.1 = e := by rw [s2]
        simp only [e5']
        rw [if_pos (by rw [← ee, c32, decide_eq_false c33]; rfl)]
        refine ⟨c31, by rw [ee], ?_⟩
        unfold mkIn
        rw [e5', ← ee, he2, hk5, Int.toNat_natCast, Int.toNat_natCast]
        rfl
end Go.Proofs.Ytnmjhhipbfngkaa.Am
