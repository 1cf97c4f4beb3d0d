/- An operation of the abstract machine tells what it does apart from what follows; it looks at its operands alone.
Conditions: none. -/
import Derived.Test.YtgigdaijailfkaaAm12
set_option linter.unusedSimpArgs false
set_option linter.unusedVariables false
namespace Go.Proofs.Ytgigdaijailfkaa.Am
open Go Go.RowKit

section
variable {R : Type}
theorem cn {S : Type} {b : Bool} {x : Option R} {y : Option S} {f : S → Option R} (h : x = y.bind f) : cond b x none = (cond b y none).bind f := by cases b <;> first | rfl | exact h
theorem cn' {S : Type} {b : Bool} {x : Option R} {y : Option S} {f : S → Option R} (h : x = y.bind f) : cond b none x = (cond b none y).bind f := by cases b <;> first | rfl | exact h
theorem viewO_nat (k : K) (v : Option Value) (c : Value → Option R) : viewO k v c = (viewO k v some).bind c := by
  cases k <;> simp only [viewO] <;> (first | (cases v.bind (getI _) <;> rfl) | (cases v.bind getB <;> rfl) | (cases v.bind getStr <;> rfl) | (cases v.bind getS <;> rfl) | (cases v.bind getP <;> rfl) | (cases v.bind getF <;> rfl) | (cases v.bind getA <;> rfl))
theorem viewMany_nat (at_ : Nat → Option Value) : ∀ (ks : List K) (o : Nat) {R : Type} (c : List Value → Option R), viewMany at_ o ks c = (viewMany at_ o ks some).bind c
  | [], _, _, _ => rfl
  | k :: ks, o, R, c => by
    simp only [viewMany]
    rw [viewO_nat, viewO_nat (R := List Value) k (at_ o) (fun v => viewMany at_ (o + 1) ks fun vs => some (v :: vs))]
    cases viewO k (at_ o) some with
    | none => rfl
    | some v =>
      simp only [Option.bind_some]
      rw [viewMany_nat at_ ks, viewMany_nat at_ ks (o + 1) (fun vs => some (v :: vs))]
      cases viewMany at_ (o + 1) ks some <;> rfl
theorem viewV_nat (sh : Bool × List K) (v : Option Value) (c : Value → Option R) : viewV sh v c = (viewV sh v some).bind c := by
  obtain ⟨b, ks⟩ := sh
  cases b with
  | true =>
    simp only [viewV]
    cases v.bind (getAgg ks.length) with
    | none => rfl
    | some l =>
      simp only [Option.bind_some]
      rw [viewMany_nat, viewMany_nat (fun i => l[i]?) ks 0 (fun vs => some (Value.agg vs.toArray))]
      cases viewMany (fun i => l[i]?) 0 ks some <;> rfl
  | false =>
    match ks with
    | [k] => exact viewO_nat k v c
    | [] => rfl
    | _ :: _ :: _ => rfl
theorem viewTup_nat (l : List Value) : ∀ (shs : List (Bool × List K)) (o : Nat) {R : Type} (c : List Value → Option R), viewTup l o shs c = (viewTup l o shs some).bind c
  | [], _, _, _ => rfl
  | k :: ks, o, R, c => by
    simp only [viewTup]
    rw [viewV_nat, viewV_nat (R := List Value) k l[o]? (fun v => viewTup l (o + 1) ks fun vs => some (v :: vs))]
    cases viewV k l[o]? some with
    | none => rfl
    | some v =>
      simp only [Option.bind_some]
      rw [viewTup_nat l ks, viewTup_nat l ks (o + 1) (fun vs => some (v :: vs))]
      cases viewTup l (o + 1) ks some <;> rfl
theorem viewRes_nat (rs : List (Bool × List K)) (v : Value) (c : Value → Option R) : viewRes rs v c = (viewRes rs v some).bind c := by
  match rs with
  | [] => simp only [viewRes]; cases getTup 0 v <;> rfl
  | [sh] => exact viewV_nat sh (some v) c
  | sh :: sh2 :: r =>
    simp only [viewRes]
    cases getTup (sh :: sh2 :: r).length v with
    | none => rfl
    | some l =>
      simp only [Option.bind_some]
      rw [viewTup_nat, viewTup_nat l (sh :: sh2 :: r) 0 (fun xs => some (Value.tuple xs.toArray))]
      cases viewTup l 0 (sh :: sh2 :: r) some <;> rfl
theorem load_nat (E : Env) (t : Nat) (h : AH) (b o : Nat) (c : Value → Option R) : load E t h b o c = (load E t h b o some).bind c := by
  unfold load
  cases E.ti t with
  | none => rfl
  | some i =>
    simp only
    cases i.agg with
    | true =>
      simp only
      rw [viewMany_nat, viewMany_nat (cell h b) i.ks o (fun vs => some (Value.agg vs.toArray))]
      cases viewMany (cell h b) o i.ks some <;> rfl
    | false =>
      simp only
      match i.ks with
      | [k] => exact viewO_nat k _ c
      | [] => rfl
      | _ :: _ :: _ => rfl
theorem intV_nat (op : BinOp) (k : IntKind) (m n : Int) (c : Value → Option R) : intV op k m n c = (intV op k m n some).bind c := by
  cases op <;> simp only [intV] <;> first | rfl | (split <;> rfl)
theorem strV_nat (op : BinOp) (m n : ByteArray) (c : Value → Option R) : strV op m n c = (strV op m n some).bind c := by
  cases op <;> simp only [strV] <;> first | rfl | (split <;> rfl)
theorem binV_nat (op : BinOp) (i : TI) (a b : Value) (c : Value → Option R) : binV op i a b c = (binV op i a b some).bind c := by
  unfold binV
  split
  · split
    · split <;> rfl
    · split <;> rfl
    · split
      · exact intV_nat _ _ _ _ c
      · rfl
  · exact strV_nat _ _ _ c
  · cases isK .bool i with
    | false => rfl
    | true => simp only [cond_true]; split <;> rfl
  · rfl
theorem unV_nat (op : UnOp) (a : Value) (c : Value → Option R) : unV op a c = (unV op a some).bind c := by
  unfold unV; split <;> rfl
theorem minV_nat : ∀ (vs : List Value) (v : Value) (c : Value → Option R), minV v vs c = (minV v vs some).bind c
  | [], v, c => by cases v <;> rfl
  | u :: r, v, c => by
    simp only [minV]
    split
    · exact minV_nat r _ c
    · rfl
theorem maxV_nat : ∀ (vs : List Value) (v : Value) (c : Value → Option R), maxV v vs c = (maxV v vs some).bind c
  | [], v, c => by cases v <;> rfl
  | u :: r, v, c => by
    simp only [maxV]
    split
    · exact maxV_nat r _ c
    · rfl
theorem bind_pair {α : Type} (x : Option Value) (h : AH) (c : Value → AH → Option R) : (x.bind fun v => c v h) = ((x.bind fun v => some (v, h)).bind fun p => c p.1 p.2) := by cases x <;> rfl
theorem exLen_nat (E : Env) (ts : List Nat) (vs : List Value) (h : AH) (c : Value → AH → Option R) : exLen E ts vs h c = (exLen E ts vs h fun v h => some (v, h)).bind fun p => c p.1 p.2 := by
  unfold exLen
  split
  · split
    · split
      · cases isSl _ <;> rfl
      · cases isK .str _ <;> rfl
      · rfl
    · rfl
  · rfl
theorem app_nat (x : Option (Value × AH)) (c : Value → AH → Option R) : (x.bind fun p => viewO .slice (some p.1) fun v => c v p.2) = (x.bind fun p => viewO .slice (some p.1) fun v => some (v, p.2)).bind fun p => c p.1 p.2 := by
  cases x with
  | none => rfl
  | some p =>
    simp only [Option.bind_some]
    rw [viewO_nat, viewO_nat (c := fun v => some (v, p.2))]
    exact bind_pair (α := Unit) _ _ _
theorem exAppend_nat (E : Env) (ts : List Nat) (vs : List Value) (h : AH) (c : Value → AH → Option R) : exAppend E ts vs h c = (exAppend E ts vs h fun v h => some (v, h)).bind fun p => c p.1 p.2 := by
  unfold exAppend
  split
  · split
    · split
      · refine cn ?_
        split
        · split
          · exact cn (app_nat _ c)
          · exact cn (app_nat _ c)
          · refine cn ?_
            split
            · exact app_nat _ c
            · rfl
          · rfl
        · rfl
      · rfl
    · rfl
  · rfl
end

theorem exOp_nat {R : Type} (E : Env) (rec : Rec) (o : Op) (s : Slots) (h : AH) (c : Value → AH → Option R) :
    exOp E rec o s h c = (exOp E rec o s h fun v h => some (v, h)).bind fun p => c p.1 p.2 := by
  cases o <;> simp only [exOp] <;> try rfl
  case move => split <;> rfl
  case assign => split <;> rfl
  case pick => (split <;> try rfl) <;> (split <;> split <;> rfl)
  case alloc => split <;> rfl
  case box =>
    split
    · split
      · cases Nat.beq _ _ <;> rfl
      · rfl
    · rfl
  case build =>
    split
    · refine cn ?_
      split <;> rfl
    · rfl
  case buildSlice =>
    split
    · split
      · refine cn ?_
        split <;> rfl
      · rfl
    · rfl
  case load =>
    split
    · rw [load_nat, load_nat (c := fun v => some (v, h))]; exact bind_pair (α := Unit) _ _ _
    · rfl
  case store =>
    split
    · split
      · refine cn ?_
        cases wr _ _ _ _ _ <;> rfl
      · rfl
    · rfl
  case nilCheck =>
    split
    · rename_i a _; cases a <;> rfl
    · rfl
    · rfl
  case binOp =>
    split
    · rw [binV_nat, binV_nat (c := fun v => some (v, h))]; exact bind_pair (α := Unit) _ _ _
    · rfl
  case unOp =>
    split
    · rw [unV_nat, unV_nat (c := fun v => some (v, h))]; exact bind_pair (α := Unit) _ _ _
    · rfl
  case convert =>
    split
    · refine cn' ?_
      split <;> rfl
    · refine cn ?_
      split
      · refine cn ?_
        cases (rawAt _ _ _).bind u8s <;> rfl
      · rfl
    · rfl
  case makeSlice =>
    split
    · split
      · refine cn' ?_
        split <;> rfl
      · rfl
    · rfl
  case slice t x lo hi mx =>
    cases mx with
    | some m => rfl
    | none =>
      simp only
      split
      · split
        · refine cn' ?_
          split <;> rfl
        · rfl
      · split
        · split
          · split
            · refine cn' ?_
              split <;> rfl
            · rfl
          · rfl
        · rfl
      · rfl
  case fieldAddr =>
    split
    · split
      · split
        · exact cn rfl
        · rfl
      · rfl
    · rfl
  case field =>
    split
    · split
      · split
        · rename_i j _
          cases j.agg with
          | true => exact cn rfl
          | false => simp only; split <;> rfl
        · rfl
      · rfl
    · rfl
  case indexAddr =>
    split
    · split
      · refine cn' ?_
        split
        · rw [Option.bind_assoc]; rfl
        · rfl
      · rfl
    · rfl
  case index =>
    split
    · refine cn' ?_
      split <;> rfl
    · rfl
  case extract =>
    split
    · split <;> rfl
    · rfl
  case makeFunc => split <;> rfl
  case call cc =>
    split
    · split
      · unfold exBuiltin
        split
        · exact exLen_nat _ _ _ _ c
        · split
          · rw [minV_nat, minV_nat (c := fun v => some (v, h))]; exact bind_pair (α := Unit) _ _ _
          · rfl
        · split
          · rw [maxV_nat, maxV_nat (c := fun v => some (v, h))]; exact bind_pair (α := Unit) _ _ _
          · rfl
        · exact exAppend_nat _ _ _ _ c
        · rfl
      · split
        · split
          · rename_i rs _
            cases rec _ _ _ with
            | none => rfl
            | some p =>
              simp only [Option.bind_some]
              rw [viewRes_nat, viewRes_nat (c := fun v => some (v, p.2))]; exact bind_pair (α := Unit) _ _ _
          · rfl
        · rfl
      · rfl
    · rfl

/-! ### What an operation looks at -/
def opTmps (o : Op) : List Nat := o.operands.toList.filterMap fun | .tmp t => some t | _ => none
theorem ev_congr {s s' : Slots} {x : Operand} (h : ∀ t, x = .tmp t → sget s t = sget s' t) : ev s x = ev s' x := by
  cases x with
  | tmp t => exact h t rfl
  | _ => rfl
theorem evs_congr {s s' : Slots} : ∀ {xs : List Operand}, (∀ t, Operand.tmp t ∈ xs → sget s t = sget s' t) → evs s xs = evs s' xs
  | [], _ => rfl
  | x :: r, h => by
    simp only [evs]
    rw [ev_congr (s := s) (s' := s') (x := x) (fun t e => h t (by rw [e]; exact List.mem_cons_self ..)), evs_congr (xs := r) fun t ht => h t (List.mem_cons_of_mem _ ht)]
theorem evP_congr {s s' : Slots} : ∀ {xs : List (Nat × Operand)}, (∀ t, Operand.tmp t ∈ xs.map (·.2) → sget s t = sget s' t) → evP s xs = evP s' xs
  | [], _ => rfl
  | (i, x) :: r, h => by
    simp only [evP]
    rw [ev_congr (s := s) (s' := s') (x := x) (fun t e => h t (by rw [e]; simp)), evP_congr (xs := r) fun t ht => h t (by simp at ht ⊢; exact .inr ht)]
theorem mem_opTmps {o : Op} {t : Nat} : t ∈ opTmps o ↔ Operand.tmp t ∈ o.operands.toList := by
  unfold opTmps
  rw [List.mem_filterMap]
  constructor
  · rintro ⟨x, hx, he⟩
    cases x <;> simp at he
    subst he; exact hx
  · intro h; exact ⟨_, h, rfl⟩

theorem bound_congr {s s' : Slots} {x : Option Operand} {d : Int} (h : ∀ t, x = some (.tmp t) → sget s t = sget s' t) : bound s x d = bound s' x d := by
  cases x with
  | none => rfl
  | some y =>
    simp only [bound]
    rw [ev_congr (s := s) (s' := s') (x := y) fun t e => h t (by rw [e])]

theorem exOp_congr {R : Type} (E : Env) (rec : Rec) (o : Op) {s s' : Slots} (h : AH) (c : Value → AH → Option R) (hs : ∀ t, t ∈ opTmps o → sget s t = sget s' t) : exOp E rec o s h c = exOp E rec o s' h c := by
  simp only [mem_opTmps] at hs
  cases o <;> simp only [exOp] <;> try rfl
  case move x => rw [ev_congr (s := s) (s' := s') (x := x) fun t e => hs t (by simp [Op.operands, e])]
  case assign x => rw [ev_congr (s := s) (s' := s') (x := x) fun t e => hs t (by simp [Op.operands, e])]
  case pick b x y => rw [ev_congr (s := s) (s' := s') (x := b) fun t e => hs t (by simp [Op.operands, e]), ev_congr (s := s) (s' := s') (x := x) fun t e => hs t (by simp [Op.operands, e]), ev_congr (s := s) (s' := s') (x := y) fun t e => hs t (by simp [Op.operands, e])]
  case box t x => rw [ev_congr (s := s) (s' := s') (x := x) fun t e => hs t (by simp [Op.operands, e])]
  case build t ps => rw [evP_congr (s := s) (s' := s') fun t e => hs t (by simpa [Op.operands] using e)]
  case buildSlice t n ps => rw [evP_congr (s := s) (s' := s') fun t e => hs t (by simpa [Op.operands] using e)]
  case load t a => rw [ev_congr (s := s) (s' := s') (x := a) fun t e => hs t (by simp [Op.operands, e])]
  case store t a x => rw [ev_congr (s := s) (s' := s') (x := a) fun t e => hs t (by simp [Op.operands, e]), ev_congr (s := s) (s' := s') (x := x) fun t e => hs t (by simp [Op.operands, e])]
  case nilCheck x => rw [ev_congr (s := s) (s' := s') (x := x) fun t e => hs t (by simp [Op.operands, e])]
  case binOp op t x y _ => rw [ev_congr (s := s) (s' := s') (x := x) fun t e => hs t (by simp [Op.operands, e]), ev_congr (s := s) (s' := s') (x := y) fun t e => hs t (by simp [Op.operands, e])]
  case unOp op t x => rw [ev_congr (s := s) (s' := s') (x := x) fun t e => hs t (by simp [Op.operands, e])]
  case convert a b x => rw [ev_congr (s := s) (s' := s') (x := x) fun t e => hs t (by simp [Op.operands, e])]
  case makeSlice t l m => rw [ev_congr (s := s) (s' := s') (x := l) fun t e => hs t (by simp [Op.operands, e]), ev_congr (s := s) (s' := s') (x := m) fun t e => hs t (by simp [Op.operands, e])]
  case slice t x lo hi mx =>
    cases mx with
    | some m => rfl
    | none =>
      simp only
      have hl : ∀ d, bound s lo d = bound s' lo d := fun d => bound_congr fun t e => hs t (by simp [Op.operands, e])
      have hh : ∀ d, bound s hi d = bound s' hi d := fun d => bound_congr fun t e => hs t (by simp [Op.operands, e])
      simp only [hl, hh]
      rw [ev_congr (s := s) (s' := s') (x := x) fun t e => hs t (by simp [Op.operands, e])]
  case fieldAddr t x f => rw [ev_congr (s := s) (s' := s') (x := x) fun t e => hs t (by simp [Op.operands, e])]
  case field t x f => rw [ev_congr (s := s) (s' := s') (x := x) fun t e => hs t (by simp [Op.operands, e])]
  case indexAddr t x i => rw [ev_congr (s := s) (s' := s') (x := x) fun t e => hs t (by simp [Op.operands, e]), ev_congr (s := s) (s' := s') (x := i) fun t e => hs t (by simp [Op.operands, e])]
  case index t x i => rw [ev_congr (s := s) (s' := s') (x := x) fun t e => hs t (by simp [Op.operands, e]), ev_congr (s := s) (s' := s') (x := i) fun t e => hs t (by simp [Op.operands, e])]
  case extract x i => rw [ev_congr (s := s) (s' := s') (x := x) fun t e => hs t (by simp [Op.operands, e])]
  case makeFunc f p q => rw [evs_congr (s := s) (s' := s') (xs := p.toList) fun t e => hs t (by simp [Op.operands]; exact .inl (by simpa using e)), evs_congr (s := s) (s' := s') (xs := q.toList) fun t e => hs t (by simp [Op.operands]; exact .inr (by simpa using e))]
  case call cc =>
    obtain ⟨callee, xs, ts⟩ := cc
    have hx : evs s xs.toList = evs s' xs.toList := evs_congr fun t e => hs t (by cases callee <;> simp [Op.operands, Call.operands] <;> first | exact (by simpa using e) | exact .inr (by simpa using e))
    cases callee with
    | builtin b => simp only [hx]
    | invoke r n => simp only [hx]
    | value f =>
      simp only [hx]
      rw [ev_congr (s := s) (s' := s') (x := f) fun t e => hs t (by simp [Op.operands, Call.operands, e])]
end Go.Proofs.Ytgigdaijailfkaa.Am
