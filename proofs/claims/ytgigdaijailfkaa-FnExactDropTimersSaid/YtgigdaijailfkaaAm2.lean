/- Each operation that only reckons, or reads, as the abstract machine carries it out, is what the real one does.
Conditions: the tables tell the program's types. -/
import Derived.Test.YtgigdaijailfkaaAm1
import Derived.Laws.AppendOwn
import Derived.Laws.Cells
import Derived.Laws.CopyRow
set_option linter.unusedSimpArgs false
set_option linter.unusedVariables false
namespace Go.Proofs.Ytgigdaijailfkaa.Am
open Go Go.RowKit

theorem isK_spec {k : K} {i : TI} (h : isK k i = true) : i.agg = false ∧ i.ks = [k] := by
  unfold isK at h
  simp only [Bool.and_eq_true, Bool.not_eq_true'] at h
  obtain ⟨h1, h2⟩ := h
  refine ⟨h1, ?_⟩
  split at h2
  · rename_i k' e
    rw [e]
    rw [of_decide_eq_true h2]
  · cases h2

theorem TFact.of_ks {P : Program} {t : Nat} {i : TI} (F : TFact P t i) {k : K} (ha : i.agg = false) (hk : i.ks = [k]) :
    (∀ n, k = .int n → P.underlying t = some (.int n)) ∧ (k = .bool → P.underlying t = some .bool) ∧ (k = .str → P.underlying t = some .string) ∧ (k = .slice → P.underlying t = some (.slice i.elem)) := by
  obtain ⟨d, hd, hu⟩ := F.und
  cases d <;> simp only [UFact] at hu <;> first | exact hu.elim | (rw [ha] at hu; exact absurd hu.1 (by decide)) | skip
  case slice e =>
    obtain ⟨h1, h2, h3, h4⟩ := hu
    rw [hk] at h3
    injection h3 with h3
    subst h3
    exact ⟨fun n e => (by cases e), fun e => (by cases e), fun e => (by cases e), fun e => (by rw [hd, h2])⟩
  all_goals
    obtain ⟨h1, h2, h3⟩ := hu
    rw [hk] at h2
    injection h2 with h2
    subst h2
    refine ⟨fun n e => ?_, fun e => ?_, fun e => ?_, fun e => ?_⟩ <;> first | (cases e; exact hd) | (cases e; done)

theorem TFact.slice {P : Program} {t : Nat} {i : TI} (F : TFact P t i) (h : isSl i = true) : P.underlying t = some (.slice i.elem) := by
  obtain ⟨h1, h2⟩ := isK_spec h
  exact (F.of_ks h1 h2).2.2.2 rfl
theorem TFact.str {P : Program} {t : Nat} {i : TI} (F : TFact P t i) (h : isK .str i = true) : P.underlying t = some .string := by
  obtain ⟨h1, h2⟩ := isK_spec h
  exact (F.of_ks h1 h2).2.2.1 rfl
theorem TFact.bool {P : Program} {t : Nat} {i : TI} (F : TFact P t i) (h : isK .bool i = true) : P.underlying t = some .bool := by
  obtain ⟨h1, h2⟩ := isK_spec h
  exact (F.of_ks h1 h2).2.1 rfl
theorem TFact.int {P : Program} {t : Nat} {i : TI} {k : IntKind} (F : TFact P t i) (h : isK (.int k) i = true) : P.underlying t = some (.int k) := by
  obtain ⟨h1, h2⟩ := isK_spec h
  exact (F.of_ks h1 h2).1 k rfl
theorem TFact.field {P : Program} {t : Nat} {i : TI} (F : TFact P t i) {f off ft : Nat} (h : i.fs[f]? = some (off, ft)) :
    ∃ fs fd, P.underlying t = some (.struct fs) ∧ fs[f]? = some fd ∧ fd.offset = off ∧ fd.type = ft := by
  obtain ⟨d, hd, hu⟩ := F.und
  have hne : i.fs ≠ [] := fun e => by rw [e] at h; simp at h
  cases d <;> simp only [UFact] at hu <;> first | exact hu.elim | skip
  all_goals first
    | exact absurd hu.2.2.2 hne
    | exact absurd hu.2.2 hne
    | skip
  · exact absurd hu.2 hne
  · rename_i fs
    obtain ⟨_, h2⟩ := hu
    rw [← h2, List.getElem?_map] at h
    cases hf : fs.toList[f]? with
    | none => rw [hf] at h; cases h
    | some fd =>
      rw [hf] at h
      injection h with h
      injection h with h3 h4
      exact ⟨fs, fd, hd, by simpa using hf, h3, h4⟩
theorem TFact.agg {P : Program} {t : Nat} {i : TI} (F : TFact P t i) (w : World) : (isAgg t).run P w = .ok i.agg w := by
  obtain ⟨d, hd, hu⟩ := F.und
  simp only [isAgg, Sem.run_bind, underlying, run_program, Result.andThen_ok, hd, Sem.run_pure]
  cases d <;> simp only [UFact] at hu <;> first | exact hu.elim | skip
  all_goals (rw [hu.1]; rfl)
theorem TFact.size {P : Program} {t : Nat} {i : TI} (F : TFact P t i) (w : World) : (sizeOf t).run P w = .ok i.ks.length w := by
  obtain ⟨f, z, hf, h1, _⟩ := F.inf
  simp [sizeOf, typeInfo, hf, h1]
theorem TFact.under {P : Program} {t : Nat} {d : TypeDesc} (h : P.underlying t = some d) (w : World) : (underlying t).run P w = .ok d w := by
  simp [underlying, h]
theorem TFact.zero {P : Program} {t : Nat} {i : TI} (F : TFact P t i) (w : World) : ∃ z, (zeroValue t).run P w = .ok z w ∧ z.cells.toList = i.zero ∧ i.zero.length = i.ks.length ∧ ∀ v ∈ i.zero, flatZ v = true := by
  obtain ⟨f, z, hf, h1, _, h3, h4, h5, h6⟩ := F.inf
  exact ⟨z, by simp [zeroValue, typeInfo, hf, h3], h4, h5, fun v hv => List.all_eq_true.1 h6 v hv⟩

section
variable {P : Program} {base : Nat} {φ : Nat → Nat × Nat} {n : Nat} {w : World} {s : Slots} {a : Act}
theorem ev_rel (hs : SR P base φ n w s a) {x : Operand} {v : Value} (h : ev s x = some v) : VR P base φ n w v (a.eval x) := by
  cases x with
  | tmp t => exact hs.get t v h
  | const c =>
    simp only [ev] at h
    cases hf : flatZ c with
    | false => rw [hf] at h; cases h
    | true => rw [hf] at h; injection h with h; subst h; exact VR.flat hf
  | global g => cases h
  | func f =>
    simp only [ev] at h
    injection h with h
    subst h
    exact .func _ _ _ _ _ rfl (fun i x y hx _ => by simp at hx) rfl (fun i x y hx _ => by simp at hx)
theorem evs_rel (hs : SR P base φ n w s a) : ∀ {xs : List Operand} {vs : List Value}, evs s xs = some vs → vs.length = xs.length ∧ ∀ (i : Nat) (x y : Value), vs[i]? = some x → (xs.map a.eval)[i]? = some y → VR P base φ n w x y
  | [], vs, h => by simp only [evs] at h; injection h with h; subst h; exact ⟨rfl, fun i x y hx _ => by simp at hx⟩
  | x :: r, vs, h => by
    simp only [evs] at h
    cases h1 : ev s x with
    | none => rw [h1] at h; simp at h
    | some v =>
      cases h2 : evs s r with
      | none => rw [h1, h2] at h; simp at h
      | some vs' =>
        rw [h1, h2] at h
        injection h with h
        subst h
        obtain ⟨hl, hr⟩ := evs_rel hs h2
        refine ⟨by simp [hl], fun i x' y hx hy => ?_⟩
        cases i with
        | zero =>
          simp at hx hy
          subst hx; subst hy
          exact ev_rel hs h1
        | succ i =>
          simp only [List.getElem?_cons_succ, List.map_cons] at hx hy
          exact hr i x' y hx hy
end

/-- What follows an operation. -/
def Cont {R : Type} (E : Env) (w0 : World) (φ : Nat → Nat × Nat) (h : AH) (w : World) (dst : Option Tmp) (a : Act) (next : Act → World → Prop) (c : Value → AH → Option R) (r : R) : Prop :=
  ∀ v h' φ' u w', c v h' = some r → Ext φ h w φ' h' w' → HR E.P E.base w0 φ' h' w' → VR E.P E.base φ' h'.length w' v u → next (a.put dst u) w'

section
variable {R : Type} {E : Env} {w0 w : World} {φ : Nat → Nat × Nat} {h : AH} {s : Slots} {a : Act} {next : Act → World → Prop} {Q : Exit → Act → World → Prop} {r : R} {c : Value → AH → Option R} {o : Oper}
theorem done_pure (hn : Cont E w0 φ h w o.dst a next c r) (hh : HR E.P E.base w0 φ h w) {v u : Value} (hc : c v h = some r) (hv : VR E.P E.base φ h.length w v u)
    (hr : (execOp a.eval o).run E.P w = .ok (.value u) w) : o.wp E.P a w next Q := by
  unfold Oper.wp
  rw [hr]
  exact hn v h φ u w hc (Ext.refl ..) hh hv
end

/-! inversions -/
section
variable {P : Program} {base : Nat} {φ : Nat → Nat × Nat} {n : Nat} {w : World} {u : Value}
theorem VR.int_inv {k : IntKind} {m : Int} (h : VR P base φ n w (.int k m) u) : u = .int k m := by cases h; rfl
theorem VR.bool_inv {b : Bool} (h : VR P base φ n w (.bool b) u) : u = .bool b := by cases h; rfl
theorem VR.str_inv {b : ByteArray} (h : VR P base φ n w (.string b) u) : u = .string b := by cases h; rfl
theorem VR.ptr_inv {ad : Addr} (h : VR P base φ n w (.pointer (some ad)) u) : ad.spot = none ∧ ad.block < n ∧ u = .pointer (some ⟨(φ ad.block).1, (φ ad.block).2 + ad.off, none⟩) := by
  cases h with
  | ptr b o hb => exact ⟨rfl, hb, rfl⟩
theorem VR.agg_inv {xs : Array Value} (h : VR P base φ n w (.agg xs) u) : ∃ ys, u = .agg ys ∧ xs.size = ys.size ∧ ∀ (i : Nat) (x y : Value), xs[i]? = some x → ys[i]? = some y → VR P base φ n w x y := by
  cases h with
  | agg _ ys h1 h2 => exact ⟨ys, rfl, h1, h2⟩
theorem VR.tup_inv {xs : Array Value} (h : VR P base φ n w (.tuple xs) u) : ∃ ys, u = .tuple ys ∧ xs.size = ys.size ∧ ∀ (i : Nat) (x y : Value), xs[i]? = some x → ys[i]? = some y → VR P base φ n w x y := by
  cases h with
  | tup _ ys h1 h2 => exact ⟨ys, rfl, h1, h2⟩
/-- A slice: its length is the same; it is empty and without room, or it lies where the other one does. -/
theorem VR.slice_inv {ad : Option Addr} {m c : Nat} (h : VR P base φ n w (.slice ad m c) u) : ∃ a' c', u = .slice a' m c' ∧ m ≤ c' ∧
    ((m = 0 ∧ c' = 0 ∧ ∀ x, ad = some x → x.spot = none ∧ x.block < n) ∨ ∃ x, ad = some x ∧ x.spot = none ∧ x.block < n ∧ a' = some ⟨(φ x.block).1, (φ x.block).2 + x.off, none⟩ ∧
      (base ≤ (φ x.block).1 → ∃ e s, w.shape? (φ x.block).1 = some (e, s) ∧ (φ x.block).2 + x.off + c' * P.cellsOf e ≤ s)) := by
  cases h with
  | empty a c a' ha => exact ⟨a', 0, rfl, Nat.le_refl _, .inl ⟨rfl, rfl, ha⟩⟩
  | slice b o m c c' hb hm hr => exact ⟨_, c', rfl, hm, .inr ⟨⟨b, o, none⟩, rfl, rfl, hb, rfl, hr⟩⟩
theorem VR.cells_rel {v : Value} (h : VR P base φ n w v u) : (cells v).length = u.cells.size ∧ ∀ (i : Nat) (x y : Value), (cells v)[i]? = some x → u.cells[i]? = some y → VR P base φ n w x y := by
  have single : ∀ {v u : Value}, VR P base φ n w v u → ∀ (i : Nat) (x y : Value), [v][i]? = some x → #[u][i]? = some y → VR P base φ n w x y := by
    intro v u h i x y hx hy
    cases i with
    | zero => simp at hx hy; subst hx; subst hy; exact h
    | succ i => simp at hx
  cases h with
  | agg xs ys h1 h2 => exact ⟨by simpa [cells, Value.cells] using h1, fun i x y hx hy => h2 i x y (by simpa [cells] using hx) hy⟩
  | int k m => exact ⟨rfl, single (.int k m)⟩
  | bool b => exact ⟨rfl, single (.bool b)⟩
  | str s => exact ⟨rfl, single (.str s)⟩
  | nilp => exact ⟨rfl, single .nilp⟩
  | nilF => exact ⟨rfl, single .nilF⟩
  | ptr b o hb => exact ⟨rfl, single (.ptr b o hb)⟩
  | empty a c a' ha => exact ⟨rfl, single (.empty a c a' ha)⟩
  | slice b o m c c' hb hm hr => exact ⟨rfl, single (.slice b o m c c' hb hm hr)⟩
  | tup xs ys h1 h2 => exact ⟨rfl, single (.tup xs ys h1 h2)⟩
  | func f p p' q q' h1 h2 h3 h4 => exact ⟨rfl, single (.func f p p' q q' h1 h2 h3 h4)⟩
end
end Go.Proofs.Ytgigdaijailfkaa.Am
