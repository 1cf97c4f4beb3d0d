/- A region whose order is open: in each order what the abstract machine tells comes out.
Conditions: the tables tell the program's types; what a called function does is given; all orders are the program's. -/
import Derived.Test.YtgigdaijailfkaaAm15
set_option linter.unusedSimpArgs false
set_option linter.unusedVariables false
namespace Go.Proofs.Ytgigdaijailfkaa.Am
open Go Go.RowKit

abbrev pair : Value → AH → Option (Value × AH) := fun v h => some (v, h)
structure St where
  s : Slots
  h : AH
  hi : List (Nat × AH)
  pe : List (Nat × Option Addr × Nat)
  an : List (Nat × Nat)

/-- One step of the text's order. -/
inductive StepV (E : Env) (rec : Rec) (ops : List Oper) (b j : Nat) (o : Oper) (A B : St) : Option Value → Prop
  | skip (g : gv ops o A.s false) (e : B = ⟨sput A.s o.dst (some undef), A.h, A.hi, A.pe, A.an⟩) : StepV E rec ops b j o A B none
  | pure (v : Value) (g : gv ops o A.s true) (k : cl o.op = .pure) (x : exOp E rec o.op A.s A.h pair = some (v, B.h)) (e : B = ⟨sput A.s o.dst (some v), B.h, A.hi, A.pe, A.an⟩) : StepV E rec ops b j o A B (some v)
  | fresh (v : Value) (g : gv ops o A.s true) (k : cl o.op = .fresh) (x : exOp E rec o.op A.s A.h pair = some (v, B.h)) (o1 : allBef b A.hi = true) (o2 : allBef b A.an = true)
      (g1 : ∀ i a n, (i, a, n) ∈ A.pe → b.testBit i = false → neA a A.h.length)
      (e : B = ⟨sput A.s o.dst (some v), B.h, A.hi, A.pe, (j, A.h.length) :: A.an⟩) : StepV E rec ops b j o A B (some v)
  | read (v : Value) (a : Option Addr) (n : Nat) (g : gv ops o A.s true) (k : cl o.op = .read) (x : exOp E rec o.op A.s A.h pair = some (v, B.h)) (ra : readAt E A.s o.op = some (a, n))
      (g1 : ∀ k nm, (k, nm) ∈ A.an → b.testBit k = false → neA a nm) (g2 : ∀ k p, (k, p) ∈ A.hi → b.testBit k = false → sameA p A.h a n)
      (e : B = ⟨sput A.s o.dst (some v), B.h, A.hi, (j, a, n) :: A.pe, A.an⟩) : StepV E rec ops b j o A B (some v)
  | heavy (v : Value) (g : gv ops o A.s true) (k : cl o.op = .heavy) (x : exOp E rec o.op A.s A.h pair = some (v, B.h)) (o1 : allBef b A.hi = true) (o2 : allBef b A.an = true)
      (g1 : ∀ i a n, (i, a, n) ∈ A.pe → b.testBit i = false → sameA A.h B.h a n)
      (e : B = ⟨sput A.s o.dst (some v), B.h, (j, A.h) :: A.hi, A.pe, A.an⟩) : StepV E rec ops b j o A B (some v)

theorem gate_some {R : Type} {p : Prop} {x : Option R} {r : R} (h : gate p x = some r) : p ∧ x = some r := by
  unfold gate at h
  split at h
  · rename_i hp; exact ⟨hp, h⟩
  · cases h
theorem gatesA_some {R : Type} {bj : Nat} {b : Option Addr} {x : Option R} {r : R} : ∀ {l : List (Nat × Nat)}, gatesA bj b l x = some r → x = some r ∧ ∀ k nm, (k, nm) ∈ l → bj.testBit k = false → neA b nm
  | [], h => ⟨h, fun k nm hm _ => by cases hm⟩
  | (k, nm) :: l, h => by
    simp only [gatesA] at h
    cases hb : bj.testBit k with
    | true =>
      rw [hb] at h
      obtain ⟨h1, h2⟩ := gatesA_some h
      refine ⟨h1, fun k' nm' hm hf => ?_⟩
      rcases List.mem_cons.1 hm with e | hm
      · injection e with e1 e2; subst e1; rw [hb] at hf; cases hf
      · exact h2 k' nm' hm hf
    | false =>
      rw [hb] at h
      obtain ⟨hp, h⟩ := gate_some h
      obtain ⟨h1, h2⟩ := gatesA_some h
      refine ⟨h1, fun k' nm' hm hf => ?_⟩
      rcases List.mem_cons.1 hm with e | hm
      · injection e with e1 e2; subst e1; subst e2; exact hp
      · exact h2 k' nm' hm hf
theorem gatesH_some {R : Type} {bj n : Nat} {b : Option Addr} {h0 : AH} {x : Option R} {r : R} : ∀ {l : List (Nat × AH)}, gatesH bj h0 b n l x = some r → x = some r ∧ ∀ k p, (k, p) ∈ l → bj.testBit k = false → sameA p h0 b n
  | [], h => ⟨h, fun k nm hm _ => by cases hm⟩
  | (k, p) :: l, h => by
    simp only [gatesH] at h
    cases hb : bj.testBit k with
    | true =>
      rw [hb] at h
      obtain ⟨h1, h2⟩ := gatesH_some h
      refine ⟨h1, fun k' nm' hm hf => ?_⟩
      rcases List.mem_cons.1 hm with e | hm
      · injection e with e1 e2; subst e1; rw [hb] at hf; cases hf
      · exact h2 k' nm' hm hf
    | false =>
      rw [hb] at h
      obtain ⟨hp, h⟩ := gate_some h
      obtain ⟨h1, h2⟩ := gatesH_some h
      refine ⟨h1, fun k' nm' hm hf => ?_⟩
      rcases List.mem_cons.1 hm with e | hm
      · injection e with e1 e2; subst e1; subst e2; exact hp
      · exact h2 k' nm' hm hf
theorem gatesP_some {R : Type} {bj : Nat} {h0 h1 : AH} {x : Option R} {r : R} : ∀ {l : List (Nat × Option Addr × Nat)}, gatesP bj h0 h1 l x = some r → x = some r ∧ ∀ i b n, (i, b, n) ∈ l → bj.testBit i = false → sameA h0 h1 b n
  | [], h => ⟨h, fun i b n hm _ => by cases hm⟩
  | (i, b, n) :: l, h => by
    simp only [gatesP] at h
    cases hb : bj.testBit i with
    | true =>
      rw [hb] at h
      obtain ⟨h1, h2⟩ := gatesP_some h
      refine ⟨h1, fun i' b' n' hm hf => ?_⟩
      rcases List.mem_cons.1 hm with e | hm
      · injection e with e1 e2; subst e1; rw [hb] at hf; cases hf
      · exact h2 i' b' n' hm hf
    | false =>
      rw [hb] at h
      obtain ⟨hp, h⟩ := gate_some h
      obtain ⟨h1, h2⟩ := gatesP_some h
      refine ⟨h1, fun i' b' n' hm hf => ?_⟩
      rcases List.mem_cons.1 hm with e | hm
      · injection e with e1 e2
        injection e2 with e2 e3
        subst e1; subst e2; subst e3; exact hp
      · exact h2 i' b' n' hm hf

theorem gatesF_some {R : Type} {bj nm : Nat} {x : Option R} {r : R} : ∀ {l : List (Nat × Option Addr × Nat)}, gatesF bj nm l x = some r → x = some r ∧ ∀ i b n, (i, b, n) ∈ l → bj.testBit i = false → neA b nm
  | [], h => ⟨h, fun i b n hm _ => by cases hm⟩
  | (i, b, n) :: l, h => by
    simp only [gatesF] at h
    cases hb : bj.testBit i with
    | true =>
      rw [hb] at h
      obtain ⟨h1, h2⟩ := gatesF_some h
      refine ⟨h1, fun i' b' n' hm hf => ?_⟩
      rcases List.mem_cons.1 hm with e | hm
      · injection e with e1 e2; subst e1; rw [hb] at hf; cases hf
      · exact h2 i' b' n' hm hf
    | false =>
      rw [hb] at h
      obtain ⟨hp, h⟩ := gate_some h
      obtain ⟨h1, h2⟩ := gatesF_some h
      refine ⟨h1, fun i' b' n' hm hf => ?_⟩
      rcases List.mem_cons.1 hm with e | hm
      · injection e with e1 e2
        injection e2 with e2 e3
        subst e2; exact hp
      · exact h2 i' b' n' hm hf

theorem exOp_pair {R : Type} {E : Env} {rec : Rec} {o : Op} {s : Slots} {h : AH} {c : Value → AH → Option R} {r : R} (hx : exOp E rec o s h c = some r) : ∃ v h', exOp E rec o s h pair = some (v, h') ∧ c v h' = some r := by
  rw [exOp_nat] at hx
  cases hp : exOp E rec o s h (fun v h => some (v, h)) with
  | none => rw [hp] at hx; cases hx
  | some p => rw [hp] at hx; exact ⟨p.1, p.2, rfl, hx⟩

/-- The text's order, step by step. -/
theorem exD_trace {R : Type} {E : Env} {rec : Rec} {ops : List Oper} {bf : List Nat} {c : Slots → AH → Option R} {r : R} : ∀ (l : List Oper) (i : Nat) (s : Slots) (h : AH) (hi : List (Nat × AH)) (pe : List (Nat × Option Addr × Nat)) (an : List (Nat × Nat)),
    exD E rec ops bf l i s h hi pe an c = some r → ∃ (T : Nat → St) (V : Nat → Option Value), T i = ⟨s, h, hi, pe, an⟩ ∧ c (T (i + l.length)).s (T (i + l.length)).h = some r ∧
      ∀ k o, l[k]? = some o → StepV E rec ops (bf.getD (i + k) 0) (i + k) o (T (i + k)) (T (i + k + 1)) (V (i + k))
  | [], i, s, h, hi, pe, an, hx => ⟨fun _ => ⟨s, h, hi, pe, an⟩, fun _ => none, rfl, hx, fun k o ho => by simp at ho⟩
  | o :: l, i, s, h, hi, pe, an, hx => by
    have build : ∀ (B : St) (v : Option Value), StepV E rec ops (bf.getD i 0) i o ⟨s, h, hi, pe, an⟩ B v → exD E rec ops bf l (i + 1) B.s B.h B.hi B.pe B.an c = some r →
        ∃ (T : Nat → St) (V : Nat → Option Value), T i = ⟨s, h, hi, pe, an⟩ ∧ c (T (i + (o :: l).length)).s (T (i + (o :: l).length)).h = some r ∧
          ∀ k o', (o :: l)[k]? = some o' → StepV E rec ops (bf.getD (i + k) 0) (i + k) o' (T (i + k)) (T (i + k + 1)) (V (i + k)) := by
      intro B v hst hrest
      obtain ⟨T, V, h1, h2, h3⟩ := exD_trace l (i + 1) _ _ _ _ _ hrest
      refine ⟨fun j => if j = i then ⟨s, h, hi, pe, an⟩ else T j, fun j => if j = i then v else V j, by simp, ?_, ?_⟩
      · have e : i + (o :: l).length = i + 1 + l.length := by simp; omega
        have hne : i + 1 + l.length ≠ i := by omega
        simp only [e, hne, if_false]
        exact h2
      · intro k o' hk
        cases k with
        | zero =>
          simp at hk
          subst hk
          simp only [Nat.add_zero, if_true]
          rw [if_neg (by omega), h1]
          exact hst
        | succ k =>
          simp only [List.getElem?_cons_succ] at hk
          have := h3 k o' hk
          have e1 : i + (k + 1) = i + 1 + k := by omega
          have n1 : i + 1 + k ≠ i := by omega
          have n2 : i + 1 + k + 1 ≠ i := by omega
          rw [e1]
          simp only [n1, n2, if_false]
          exact this
    simp only [exD] at hx
    rcases guarded_some hx with ⟨hg, hx⟩ | ⟨hg, hx⟩
    · cases hc : cl o.op with
      | pure =>
        rw [hc] at hx
        simp only at hx
        obtain ⟨v, h', h1, h2⟩ := exOp_pair hx
        exact build ⟨_, h', _, _, _⟩ (some v) (.pure v hg hc h1 rfl) h2
      | fresh =>
        rw [hc] at hx
        simp only at hx
        cases hb : (allBef (bf.getD i 0) hi && allBef (bf.getD i 0) an) with
        | false => rw [hb] at hx; cases hx
        | true =>
          rw [hb] at hx
          simp only [cond_true] at hx
          simp only [Bool.and_eq_true] at hb
          obtain ⟨hx, g1⟩ := gatesF_some hx
          obtain ⟨v, h', h1, h2⟩ := exOp_pair hx
          exact build ⟨_, h', _, _, _⟩ (some v) (.fresh v hg hc h1 hb.1 hb.2 g1 rfl) h2
      | read =>
        rw [hc] at hx
        simp only at hx
        split at hx
        · rename_i a n hra
          obtain ⟨hx, g1⟩ := gatesA_some hx
          obtain ⟨hx, g2⟩ := gatesH_some hx
          obtain ⟨v, h', h1, h2⟩ := exOp_pair hx
          exact build ⟨_, h', _, _, _⟩ (some v) (.read v a n hg hc h1 hra g1 g2 rfl) h2
        · cases hx
      | heavy =>
        rw [hc] at hx
        simp only at hx
        cases hb : (allBef (bf.getD i 0) hi && allBef (bf.getD i 0) an) with
        | false => rw [hb] at hx; cases hx
        | true =>
          rw [hb] at hx
          simp only [cond_true] at hx
          simp only [Bool.and_eq_true] at hb
          obtain ⟨v, h', h1, h2⟩ := exOp_pair hx
          obtain ⟨h2, g1⟩ := gatesP_some h2
          exact build ⟨_, h', _, _, _⟩ (some v) (.heavy v hg hc h1 hb.1 hb.2 g1 rfl) h2
    · exact build ⟨_, h, _, _, _⟩ none (.skip hg rfl) hx

theorem allBef_mem {α : Type} {b : Nat} : ∀ {l : List (Nat × α)}, allBef b l = true → ∀ k x, (k, x) ∈ l → b.testBit k = true
  | [], _, k, x, hm => by cases hm
  | (k0, x0) :: l, h, k, x, hm => by
    simp only [allBef, Bool.and_eq_true] at h
    rcases List.mem_cons.1 hm with e | hm
    · injection e with e1 e2; subst e1; exact h.1
    · exact allBef_mem h.2 k x hm

/-! ### What comes ahead of what -/
theorem bindsAny_eq (e : Edge) : Region.binds .any e = bindsAny e := by
  unfold Region.binds bindsAny
  cases e.ground <;> rfl
theorem befOf_bit {acc : List Nat} {x : Nat} : ∀ {es : List Edge}, (befOf acc es).testBit x = true → ∃ e ∈ es, bindsAny e = true ∧ (x = e.on ∨ (acc.getD e.on 0).testBit x = true)
  | [], h => by simp [befOf] at h
  | e :: r, h => by
    simp only [befOf] at h
    cases hb : bindsAny e with
    | false =>
      rw [hb] at h
      obtain ⟨e', h1, h2⟩ := befOf_bit h
      exact ⟨e', List.mem_cons_of_mem _ h1, h2⟩
    | true =>
      rw [hb] at h
      simp only [cond_true, Nat.testBit_or, Bool.or_eq_true] at h
      rcases h with (h | h) | h
      · refine ⟨e, List.mem_cons_self .., hb, .inl ?_⟩
        rw [Nat.testBit_shiftLeft] at h
        simp only [Bool.and_eq_true, decide_eq_true_eq] at h
        obtain ⟨h1, h2⟩ := h
        have : x - e.on = 0 := by
          cases hq : x - e.on with
          | zero => rfl
          | succ q =>
            rw [hq] at h2
            simp [Nat.testBit_succ] at h2
        omega
      · exact ⟨e, List.mem_cons_self .., hb, .inr h⟩
      · obtain ⟨e', h1, h2⟩ := befOf_bit h
        exact ⟨e', List.mem_cons_of_mem _ h1, h2⟩
theorem befs_get : ∀ (l : List Oper) (acc : List Nat), (∀ j, j < acc.length → (befs acc l)[j]? = acc[j]?) ∧
    (∀ (k : Nat) (o : Oper), l[k]? = some o → ∃ pre, (befs acc l)[acc.length + k]? = some (befOf pre o.after.toList) ∧ pre.length = acc.length + k ∧ ∀ j, j < pre.length → pre[j]? = (befs acc l)[j]?)
  | [], acc => ⟨fun j _ => rfl, fun k o ho => by simp at ho⟩
  | o :: l, acc => by
    obtain ⟨h1, h2⟩ := befs_get l (acc ++ [befOf acc o.after.toList])
    have h0 : ∀ j, j < acc.length → (befs acc (o :: l))[j]? = acc[j]? := fun j hj => by
      simp only [befs]
      rw [h1 j (by simp; omega), List.getElem?_append_left hj]
    refine ⟨h0, fun k o' hk => ?_⟩
    cases k with
    | zero =>
      simp at hk
      subst hk
      refine ⟨acc, ?_, rfl, fun j hj => (h0 j hj).symm⟩
      simp only [befs]
      rw [h1 (acc.length + 0) (by simp)]
      simp
    | succ k =>
      simp only [List.getElem?_cons_succ] at hk
      obtain ⟨pre, q1, q2, q3⟩ := h2 k o' hk
      simp only [List.length_append, List.length_singleton] at q1 q2
      exact ⟨pre, by simp only [befs]; rw [show acc.length + (k + 1) = acc.length + 1 + k from by omega]; exact q1, by omega, q3⟩
theorem bf_bit {l : List Oper} {j x : Nat} {o : Oper} (ho : l[j]? = some o) (h : ((befs [] l).getD j 0).testBit x = true) :
    ∃ e ∈ o.after.toList, bindsAny e = true ∧ (x = e.on ∨ (e.on < j ∧ ((befs [] l).getD e.on 0).testBit x = true)) := by
  obtain ⟨_, h2⟩ := befs_get l []
  obtain ⟨pre, q1, q2, q3⟩ := h2 j o ho
  simp only [List.length_nil, Nat.zero_add] at q1 q2
  rw [List.getD_eq_getElem?_getD, q1] at h
  obtain ⟨e, h1, h2, h3⟩ := befOf_bit h
  refine ⟨e, h1, h2, h3.imp id fun h4 => ?_⟩
  rw [List.getD_eq_getElem?_getD] at h4 ⊢
  by_cases hlt : e.on < j
  · rw [q3 _ (by omega)] at h4
    exact ⟨hlt, h4⟩
  · rw [List.getElem?_eq_none (by omega)] at h4
    simp at h4

theorem regOk_spec {ops : List Oper} {bf : List Nat} : ∀ (l : List Oper) (i : Nat), regOk ops bf i l = true → ∀ (k : Nat) (o : Oper), l[k]? = some o → edgesOk (i + k) o.after.toList = true ∧ pairsOk ops (bf.getD (i + k) 0) o 0 (ops.take (i + k)) = true
  | [], _, _, k, o, ho => by simp at ho
  | o :: l, i, h, k, o', ho => by
    simp only [regOk, Bool.and_eq_true] at h
    obtain ⟨⟨⟨h1, h2⟩, h3⟩, h4⟩ := h
    cases k with
    | zero => simp at ho; subst ho; exact ⟨h1, h3⟩
    | succ k =>
      simp only [List.getElem?_cons_succ] at ho
      have := regOk_spec l (i + 1) h4 k o' ho
      rw [show i + (k + 1) = i + 1 + k from by omega]
      exact this
theorem pairsOk_spec {ops : List Oper} {bj : Nat} {oj : Oper} : ∀ (l : List Oper) (i : Nat), pairsOk ops bj oj i l = true → ∀ (k : Nat) (o : Oper), l[k]? = some o → pairOk ops bj (i + k) o oj = true
  | [], _, _, k, o, ho => by simp at ho
  | o :: l, i, h, k, o', ho => by
    simp only [pairsOk, Bool.and_eq_true] at h
    cases k with
    | zero => simp at ho; subst ho; exact h.1
    | succ k =>
      simp only [List.getElem?_cons_succ] at ho
      have := pairsOk_spec l (i + 1) h.2 k o' ho
      rw [show i + (k + 1) = i + 1 + k from by omega]
      exact this
theorem edgesOk_spec {j : Nat} : ∀ {es : List Edge}, edgesOk j es = true → ∀ e ∈ es, bindsAny e = true → e.on < j
  | [], _, e, he, _ => by cases he
  | e0 :: r, h, e, he, hb => by
    simp only [edgesOk, Bool.and_eq_true] at h
    rcases List.mem_cons.1 he with rfl | he
    · rw [hb] at h
      have := h.1
      simp only [Bool.not_true, Bool.false_or, Nat.blt_eq] at this
      exact this
    · exact edgesOk_spec h.2 e he hb
theorem memN_of {t : Nat} : ∀ {l : List Nat}, t ∈ l → memN t l = true
  | x :: r, h => by
    simp only [memN, Bool.or_eq_true]
    rcases List.mem_cons.1 h with rfl | h
    · exact .inl (Nat.beq_refl t)
    · exact .inr (memN_of h)
end Go.Proofs.Ytgigdaijailfkaa.Am
