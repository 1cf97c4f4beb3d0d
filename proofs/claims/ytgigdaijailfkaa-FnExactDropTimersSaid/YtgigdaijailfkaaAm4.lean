/- Operations that read memory, or make it.
Conditions: the tables tell the program's types. -/
import Derived.Test.YtgigdaijailfkaaAm3
set_option linter.unusedSimpArgs false
set_option linter.unusedVariables false
namespace Go.Proofs.Ytgigdaijailfkaa.Am
open Go Go.RowKit

theorem hget_some {h : AH} {b : Nat} {k : Blk} : hget h b = some k ↔ h[b]? = some (some k) := by
  unfold hget
  cases hb : h[b]? with
  | none => simp
  | some x => simp
theorem hget_append_lt {h g : AH} {b : Nat} (hb : b < h.length) : hget (h ++ g) b = hget h b := by
  unfold hget; rw [List.getElem?_append_left hb]
theorem hget_append_new {h : AH} {x : Option Blk} : hget (h ++ [x]) h.length = x := by
  unfold hget; simp
theorem hget_append_ge {h : AH} {x : Option Blk} {b : Nat} (hb : h.length < b) : hget (h ++ [x]) b = none := by
  unfold hget; rw [List.getElem?_eq_none (by simp; omega)]; rfl
theorem cell_some {h : AH} {b o : Nat} {v : Value} (hc : cell h b o = some v) : ∃ k, hget h b = some k ∧ k.cs[o]? = some v := by
  unfold cell at hc
  cases hk : hget h b with
  | none => rw [hk] at hc; cases hc
  | some k => rw [hk] at hc; exact ⟨k, rfl, hc⟩

section
variable {E : Env} {w0 w : World} {φ : Nat → Nat × Nat} {h : AH}
/-- A cell that the abstract heap has, the real one has. -/
theorem HR.cell (hh : HR E.P E.base w0 φ h w) {b o : Nat} {v : Value} (hc : Am.cell h b o = some v) :
    ∃ u, w.cell? ⟨(φ b).1, (φ b).2 + o, none⟩ = some u ∧ CR E.P E.base φ h.length w v u := by
  obtain ⟨k, hk, hv⟩ := cell_some hc
  obtain ⟨cs, fr, h1, h2, _⟩ := hh.blk b k hk
  obtain ⟨u, hu, hr⟩ := h2 o v hv
  exact ⟨u, by simp [World.cell?, h1, hu], hr⟩
end

/-- What a view lays open is what was there. -/
theorem viewO_some {R : Type} {k : K} {v : Option Value} {c : Value → Option R} {r : R} (h : viewO k v c = some r) :
    ∃ x y, v = some x ∧ c y = some r ∧ ∀ P base φ n w u, CR P base φ n w x u → VR P base φ n w y u := by
  cases v with
  | none => cases k <;> simp [viewO] at h
  | some x =>
    cases k with
    | int k =>
      simp only [viewO, Option.bind_some] at h
      cases x with
      | int k' n =>
        simp only [getI] at h
        split at h
        · rename_i e; subst e; exact ⟨_, _, rfl, h, fun _ _ _ _ _ _ hr => hr (by simp)⟩
        · cases h
      | _ => cases h
    | bool => cases x <;> simp [viewO, getB] at h; exact ⟨_, _, rfl, h, fun _ _ _ _ _ _ hr => hr (by simp)⟩
    | str => cases x <;> simp [viewO, getStr] at h; exact ⟨_, _, rfl, h, fun _ _ _ _ _ _ hr => hr (by simp)⟩
    | ptr => cases x <;> simp [viewO, getP] at h; exact ⟨_, _, rfl, h, fun _ _ _ _ _ _ hr => hr (by simp)⟩
    | func => cases x <;> simp [viewO, getF] at h; exact ⟨_, _, rfl, h, fun _ _ _ _ _ _ hr => hr (by simp)⟩
    | addr =>
      cases x <;> simp only [viewO, getA, Option.bind_some] at h <;> first | (cases h; done) | skip
      rename_i a
      cases a with
      | none => cases h
      | some a => exact ⟨_, _, rfl, h, fun _ _ _ _ _ _ hr => hr (by simp)⟩
    | slice =>
      cases x <;> simp [viewO, getS] at h
      refine ⟨_, _, rfl, h, fun _ _ _ _ _ _ hr => ?_⟩
      cases hr (by simp) with
      | empty a c a' ha => exact .empty _ _ _ ha
      | slice b o _ _ c' hb hm hr2 => exact .slice b o _ _ c' hb hm hr2

theorem viewMany_some {R : Type} {at_ : Nat → Option Value} : ∀ {ks : List K} {o : Nat} {c : List Value → Option R} {r : R}, viewMany at_ o ks c = some r →
    ∃ vs, vs.length = ks.length ∧ c vs = some r ∧ ∀ (i : Nat) (y : Value), vs[i]? = some y → ∃ x, at_ (o + i) = some x ∧ ∀ P base φ n w u, CR P base φ n w x u → VR P base φ n w y u
  | [], o, c, r, h => ⟨[], rfl, h, fun i y hy => by simp at hy⟩
  | k :: ks, o, c, r, h => by
    simp only [viewMany] at h
    obtain ⟨x, y, hx, hc, hr⟩ := viewO_some h
    obtain ⟨vs, hl, hc2, hv⟩ := viewMany_some hc
    refine ⟨y :: vs, by simp [hl], hc2, fun i z hz => ?_⟩
    cases i with
    | zero => simp at hz; subst hz; exact ⟨x, hx, hr⟩
    | succ i =>
      simp only [List.getElem?_cons_succ] at hz
      obtain ⟨x', hx', hr'⟩ := hv i z hz
      exact ⟨x', by rw [← hx']; congr 1; omega, hr'⟩

section
variable {R : Type} {E : Env} {w0 w : World} {φ : Nat → Nat × Nat} {h : AH} {s : Slots} {a : Act} {next : Act → World → Prop} {Q : Exit → Act → World → Prop} {r : R} {c : Value → AH → Option R}
  {rec : Rec} {dst : Option Tmp} {ty : TypeId} {pos : String} {after : Array Edge} {guard : Option (Nat × Bool)}

theorem load_sound (hE : EnvOk E) (hh : HR E.P E.base w0 φ h w) {t b o : Nat} {cc : Value → Option R} (hx : load E t h b o cc = some r) :
    ∃ v u, cc v = some r ∧ VR E.P E.base φ h.length w v u ∧ (loadVar t ⟨(φ b).1, (φ b).2 + o, none⟩).run E.P w = .ok u w := by
  unfold load at hx
  cases hi : E.ti t with
  | none => rw [hi] at hx; cases hx
  | some i =>
    rw [hi] at hx
    have F := hE.ti t i hi
    cases hag : i.agg with
    | true =>
      simp only [hag] at hx
      obtain ⟨vs, hl, hc, hv⟩ := viewMany_some hx
      have hcells : ∀ j, j < vs.length → ∃ u, w.cell? ((⟨(φ b).1, (φ b).2 + o, none⟩ : Addr).add j) = some u ∧ ∀ y, vs[j]? = some y → VR E.P E.base φ h.length w y u := by
        intro j hj
        obtain ⟨x, hx', hr'⟩ := hv j vs[j] (List.getElem?_eq_getElem hj)
        obtain ⟨u, hu, hr⟩ := hh.cell hx'
        refine ⟨u, ?_, fun y hy => ?_⟩
        · rw [← hu]
          congr 1
          unfold Addr.add
          split
          · rename_i e; subst e; rfl
          · simp [Nat.add_assoc]
        · rw [List.getElem?_eq_getElem hj] at hy
          injection hy with hy
          subst hy
          exact hr' _ _ _ _ _ _ hr
      let f : Nat → Value := fun j => if hj : j < vs.length then (hcells j hj).choose else undef
      have hf : ∀ j, j < vs.length → w.cell? ((⟨(φ b).1, (φ b).2 + o, none⟩ : Addr).add j) = some (f j) := by
        intro j hj
        simp only [f, hj, dite_true]
        exact (hcells j hj).choose_spec.1
      refine ⟨.agg vs.toArray, .agg ((List.range vs.length).map f).toArray, hc, .agg _ _ (by simp) ?_, ?_⟩
      · intro j y u hy hu
        have hj : j < vs.length := by
          have := (Array.getElem?_eq_some_iff.1 hy).1
          simpa using this
        simp [hj] at hu
        rw [← hu]
        simp only [f, hj, dite_true]
        exact (hcells j hj).choose_spec.2 y (by simpa using hy)
      · simp only [loadVar, Sem.run_bind, F.agg w, Result.andThen_ok, hag, if_true, F.size w, ← hl, run_loadCells w _ _ f hf, Sem.run_pure]
    | false =>
      simp only [hag] at hx
      split at hx
      · rename_i k hk
        obtain ⟨x, y, hx', hc, hr'⟩ := viewO_some hx
        obtain ⟨u, hu, hr⟩ := hh.cell hx'
        refine ⟨y, u, hc, hr' _ _ _ _ _ _ hr, ?_⟩
        simp [loadVar, F.agg w, hag, hu]
      · cases hx

theorem op_load (hE : EnvOk E) (t : TypeId) (x : Operand) (hx : exOp E rec (.load t x) s h c = some r) (hs : SR E.P E.base φ h.length w s a) (hh : HR E.P E.base w0 φ h w) (hn : Cont E w0 φ h w dst a next c r) :
    (⟨dst, .load t x, ty, pos, after, guard⟩ : Oper).wp E.P a w next Q := by
  simp only [exOp] at hx
  split at hx
  · rename_i ad h1
    obtain ⟨hsp, hlt, e⟩ := (ev_rel hs h1).ptr_inv
    obtain ⟨v, u, hc, hr, hrun⟩ := load_sound hE hh hx
    exact done_pure (o := ⟨dst, .load t x, ty, pos, after, guard⟩) hn hh hc hr (by simp [execOp, e, Instr.loadAt, Instr.sureAddr, hrun])
  · cases hx

/-- A new block. -/
theorem HR.push (hh : HR E.P E.base w0 φ h w) (cs : List Value) (t : TypeId) (us : Array Value) (w1 : World) (hw1 : ∃ d, w1 = ({ w with drawn := d } : World).alloc (.cells us t))
    (hl : ∀ (j : Nat) (v : Value), cs[j]? = some v → ∃ u, us[j]? = some u ∧ CR E.P E.base φ h.length w v u) :
    ∃ φ', Ext φ h w φ' (h ++ [some ⟨cs, t⟩]) w1 ∧ HR E.P E.base w0 φ' (h ++ [some ⟨cs, t⟩]) w1 ∧ φ' h.length = (w.heap.size, 0) ∧ w1.heap[w.heap.size]? = some (.cells us t (0, 0)) ∧ w1.heap.size = w.heap.size + 1 := by
  obtain ⟨d, rfl⟩ := hw1
  let φ' : Nat → Nat × Nat := fun i => if i = h.length then (w.heap.size, 0) else φ i
  have hold : ∀ i, i < h.length → φ' i = φ i := fun i hi => by simp only [φ']; rw [if_neg (by omega)]
  have hnew : φ' h.length = (w.heap.size, 0) := by simp [φ']
  have hhp : ∀ b, b < w.heap.size → ((({ w with drawn := d } : World).alloc (.cells us t)).heap)[b]? = w.heap[b]? := fun b hb => Below.heap_alloc _ _ _ hb
  have hnb : ((({ w with drawn := d } : World).alloc (.cells us t)).heap)[w.heap.size]? = some (.cells us t (0, 0)) := heap_alloc_new _ _
  have hsz : (({ w with drawn := d } : World).alloc (.cells us t)).heap.size = w.heap.size + 1 := by simp
  have hshape : ShapeLe w (({ w with drawn := d } : World).alloc (.cells us t)) := by
    intro b x hx
    have hb : b < w.heap.size := by
      simp only [World.shape?] at hx
      by_cases hb : b < w.heap.size
      · exact hb
      · rw [Array.getElem?_eq_none (Nat.le_of_not_lt hb)] at hx; cases hx
    simp only [World.shape?, hhp b hb]
    exact hx
  have hbl : ∀ i k, hget h i = some k → (φ i).1 < w.heap.size := fun i k hi => by
    obtain ⟨cs, fr, h1, _⟩ := hh.blk i k hi
    exact (Array.getElem?_eq_some_iff.1 h1).1
  have hcase : ∀ i k, hget (h ++ [some ⟨cs, t⟩]) i = some k → (i < h.length ∧ hget h i = some k) ∨ (i = h.length ∧ k = ⟨cs, t⟩) := fun i k hi => by
    rcases Nat.lt_trichotomy i h.length with hlt | heq | hgt
    · exact .inl ⟨hlt, by rw [hget_append_lt hlt] at hi; exact hi⟩
    · subst heq; rw [hget_append_new] at hi; injection hi with hi; exact .inr ⟨rfl, hi.symm⟩
    · rw [hget_append_ge hgt] at hi; cases hi
  refine ⟨φ', ⟨by simp, hold, ?_, fun b hb _ => hhp b hb, by rw [hsz]; omega, hshape⟩, ⟨?_, ?_, ?_, ?_, ?_, ?_⟩, hnew, hnb, hsz⟩
  · intro i k hi hlt
    rcases hcase i k hi with ⟨h1, h2⟩ | ⟨h1, _⟩
    · exact ⟨i, k, h2, by rw [hold i h1]⟩
    · subst h1; rw [hnew] at hlt; exact absurd hlt (Nat.lt_irrefl _)
  · exact hh.below.trans ⟨rfl, rfl, rfl, by rw [hsz]; omega, fun b hb => hhp b (Nat.lt_of_lt_of_le hb hh.bw)⟩
  · intro i k hi
    rcases hcase i k hi with ⟨h1, h2⟩ | ⟨h1, h2⟩
    · obtain ⟨cs', fr, g1, g2, g3⟩ := hh.blk i k h2
      rw [hold i h1]
      refine ⟨cs', fr, by rw [hhp _ (hbl i k h2)]; exact g1, fun j v hj => ?_, g3⟩
      obtain ⟨u, hu, hv⟩ := g2 j v hj
      exact ⟨u, hu, hv.mono hold (by simp) hshape⟩
    · subst h1; subst h2
      rw [hnew]
      refine ⟨us, (0, 0), hnb, fun j v hj => ?_, fun _ => ⟨rfl, hh.bw⟩⟩
      obtain ⟨u, hu, hv⟩ := hl j v hj
      exact ⟨u, by simpa using hu, hv.mono hold (by simp) hshape⟩
  · intro i j k l hi hj e
    rcases hcase i k hi with ⟨h1, h2⟩ | ⟨h1, h2⟩ <;> rcases hcase j l hj with ⟨g1, g2⟩ | ⟨g1, g2⟩
    · rw [hold i h1, hold j g1] at e; exact hh.inj i j k l h2 g2 e
    · subst g1; rw [hold i h1, hnew] at e
      have := hbl i k h2
      simp at e; omega
    · subst h1; rw [hold j g1, hnew] at e
      have := hbl j l g2
      simp at e; omega
    · omega
  · intro i hi; rw [hold i (Nat.lt_of_lt_of_le hi hh.len)]; exact hh.lo i hi
  · have := hh.len; simp; omega
  · rw [hsz]; have := hh.bw; omega

theorem alloc_drawn (w : World) (o : Obj) : w.alloc o = ({ w with drawn := w.drawn } : World).alloc o := rfl

theorem op_alloc (hE : EnvOk E) (t : TypeId) (hx : exOp E rec (.alloc t) s h c = some r) (hs : SR E.P E.base φ h.length w s a) (hh : HR E.P E.base w0 φ h w) (hn : Cont E w0 φ h w dst a next c r) :
    (⟨dst, .alloc t, ty, pos, after, guard⟩ : Oper).wp E.P a w next Q := by
  simp only [exOp] at hx
  split at hx
  · rename_i i hi
    obtain ⟨z, hz, h1, h2, h3⟩ := (hE.ti t i hi).zero w
    obtain ⟨φ', e1, e2, e3, _⟩ := hh.push i.zero t z.cells (w.alloc (.cells z.cells t)) ⟨w.drawn, rfl⟩ (fun j v hj => by
      rw [← h1] at hj
      exact ⟨v, by simpa using hj, fun _ => VR.flat (h3 v (by rw [← h1]; exact List.mem_of_getElem? hj))⟩)
    unfold Oper.wp
    have hr : (execOp a.eval (⟨dst, .alloc t, ty, pos, after, guard⟩ : Oper)).run E.P w = .ok (.value (.pointer (some ⟨w.heap.size, 0, none⟩))) (w.alloc (.cells z.cells t)) := by
      simp [execOp, Instr.alloc, hz, newVar, newRow]
    rw [hr]
    refine hn _ _ φ' _ _ hx e1 e2 ?_
    have := VR.ptr (P := E.P) (base := E.base) (φ := φ') (n := (h ++ [some (⟨i.zero, t⟩ : Blk)]).length) (w := w.alloc (.cells z.cells t)) h.length 0 (by simp)
    rw [e3] at this
    exact this
  · cases hx

theorem op_box (hE : EnvOk E) (t : TypeId) (x : Operand) (hx : exOp E rec (.box t x) s h c = some r) (hs : SR E.P E.base φ h.length w s a) (hh : HR E.P E.base w0 φ h w) (hn : Cont E w0 φ h w dst a next c r) :
    (⟨dst, .box t x, ty, pos, after, guard⟩ : Oper).wp E.P a w next Q := by
  simp only [exOp] at hx
  split at hx
  · rename_i v hv
    split at hx
    · rename_i i hi
      cases hb : Nat.beq (cells v).length i.ks.length with
      | false => rw [hb] at hx; cases hx
      | true =>
        rw [hb] at hx
        simp only [cond_true] at hx
        obtain ⟨hl, hr⟩ := (ev_rel hs hv).cells_rel
        obtain ⟨φ', e1, e2, e3, _⟩ := hh.push (cells v) t (a.eval x).cells (w.alloc (.cells (a.eval x).cells t)) ⟨w.drawn, rfl⟩ (fun j y hj => by
          have hlt : j < (a.eval x).cells.size := by rw [← hl]; exact (List.getElem?_eq_some_iff.1 hj).1
          exact ⟨_, Array.getElem?_eq_getElem hlt, fun _ => hr j y _ hj (Array.getElem?_eq_getElem hlt)⟩)
        unfold Oper.wp
        have hrun : (execOp a.eval (⟨dst, .box t x, ty, pos, after, guard⟩ : Oper)).run E.P w = .ok (.value (.pointer (some ⟨w.heap.size, 0, none⟩))) (w.alloc (.cells (a.eval x).cells t)) := by
          simp [execOp, Instr.box, newVar, newRow]
        rw [hrun]
        refine hn _ _ φ' _ _ hx e1 e2 ?_
        have := VR.ptr (P := E.P) (base := E.base) (φ := φ') (n := (h ++ [some (⟨cells v, t⟩ : Blk)]).length) (w := w.alloc (.cells (a.eval x).cells t)) h.length 0 (by simp)
        rw [e3] at this
        exact this
    · cases hx
  · cases hx
end
end Go.Proofs.Ytgigdaijailfkaa.Am
