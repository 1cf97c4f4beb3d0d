/- Values put together, cuts, lengths: the operations.
Conditions: the tables tell the program's types. -/
import Derived.Test.YtgigdaijailfkaaAm6
set_option linter.unusedSimpArgs false
set_option linter.unusedVariables false
namespace Go.Proofs.Ytgigdaijailfkaa.Am
open Go Go.RowKit

section
variable {R : Type} {E : Env} {w0 w : World} {φ : Nat → Nat × Nat} {h : AH} {s : Slots} {a : Act} {next : Act → World → Prop} {Q : Exit → Act → World → Prop} {r : R} {c : Value → AH → Option R}
  {rec : Rec} {dst : Option Tmp} {ty : TypeId} {pos : String} {after : Array Edge} {guard : Option (Nat × Bool)}

theorem places_of (hE : EnvOk E) : ∀ (fs : List Field) (is : List (Nat × Nat)), fs.map (fun f => (f.offset, f.type)) = is → allTi E is = true →
    ∃ places, fs.mapM (fun f => (E.P.info? f.type).map fun i => (f.offset, i.size)) = some places ∧ ∀ (i off t : Nat) j, is[i]? = some (off, t) → E.ti t = some j → places[i]? = some (off, j.ks.length)
  | [], is, h, _ => by subst h; exact ⟨[], by simp, fun i off t j hi _ => by simp at hi⟩
  | f :: fs, is, h, hall => by
    subst h
    simp only [List.map_cons, allTi, Bool.and_eq_true] at hall
    obtain ⟨h1, h2⟩ := hall
    obtain ⟨places, hp, hr⟩ := places_of hE fs _ rfl h2
    cases hj : E.ti f.type with
    | none => rw [hj] at h1; cases h1
    | some j =>
      obtain ⟨inf, z, hi, hsz, _⟩ := (hE.ti f.type j hj).inf
      refine ⟨(f.offset, inf.size) :: places, by simp [hi, hp], fun i off t j' hi' hj' => ?_⟩
      cases i with
      | zero =>
        simp at hi'
        obtain ⟨e1, e2⟩ := hi'
        subst e1; subst e2
        rw [hj] at hj'
        injection hj' with hj'
        subst hj'
        simp [hsz]
      | succ i => simp only [List.map_cons, List.getElem?_cons_succ] at hi' ⊢; exact hr i off t j' hi' hj'

theorem flatRows (l : List Value) (hl : ∀ v ∈ l, flatZ v = true) : Rows2 E.P E.base φ h.length w l l.toArray :=
  ⟨by simp, fun j x y hx hy => by
    simp only [List.getElem?_toArray] at hy
    rw [hx] at hy
    injection hy with hy
    subst hy
    exact VR.flat (hl x (List.mem_of_getElem? hx))⟩

theorem TFact.struct {P : Program} {t : Nat} {i : TI} (F : TFact P t i) (hne : i.fs ≠ []) : ∃ fs, P.underlying t = some (.struct fs) ∧ fs.toList.map (fun f => (f.offset, f.type)) = i.fs := by
  obtain ⟨d, hd, hu⟩ := F.und
  cases d <;> simp only [UFact] at hu <;> first | exact hu.elim | skip
  all_goals first
    | exact absurd hu.2.2.2 hne
    | exact absurd hu.2.2 hne
    | skip
  · exact absurd hu.2 hne
  · exact ⟨_, hd, hu.2⟩

theorem op_build (hE : EnvOk E) (t : TypeId) (ps : Array (Nat × Operand)) (hx : exOp E rec (.build t ps) s h c = some r) (hs : SR E.P E.base φ h.length w s a) (hh : HR E.P E.base w0 φ h w) (hn : Cont E w0 φ h w dst a next c r) :
    (⟨dst, .build t ps, ty, pos, after, guard⟩ : Oper).wp E.P a w next Q := by
  simp only [exOp] at hx
  split at hx
  · rename_i vs i h1 h2
    cases hb : (Nat.blt 0 i.fs.length && allTi E i.fs && fsOk E i.fs vs) with
    | false => rw [hb] at hx; cases hx
    | true =>
      rw [hb] at hx
      simp only [cond_true] at hx
      simp only [Bool.and_eq_true, Nat.blt_eq] at hb
      obtain ⟨⟨hb0, hb1⟩, hb2⟩ := hb
      split at hx
      · rename_i cs hcs
        obtain ⟨inf, z, hinf, hisz, _, hz, hzc, hzl, hzf⟩ := (hE.ti t i h2).inf
        obtain ⟨el, er⟩ := evP_rel hs h1
        obtain ⟨fs, hu, hmap⟩ := (hE.ti t i h2).struct (fun e => by rw [e] at hb0; simp at hb0)
        obtain ⟨places, hp, hpl⟩ := places_of hE fs.toList i.fs hmap hb1
        have hpl' : ∀ (k off ft : Nat) j, i.fs[k]? = some (off, ft) → E.ti ft = some j → (fun k => places.toArray[k]?) k = some (off, j.ks.length) := fun k off ft j h1 h2 => by simpa using hpl k off ft j h1 h2
        have hrows := flatRows (E := E) (φ := φ) (h := h) (w := w) i.zero (fun v hv => List.all_eq_true.1 hzf v hv)
        have hza : i.zero.toArray = z.cells := by rw [← hzc]
        rw [hza] at hrows
        obtain ⟨o2, g1, g2⟩ := fillS_sound (E := E) (w := w) (φ := φ) (h := h) (fs := i.fs) (places := fun k => places.toArray[k]?) vs (ps.toList.map fun p => (p.1, a.eval p.2)) i.zero z.cells cs hcs hb2 (by simpa using el) hpl'
          (fun j p q hp hq => by
            rw [List.getElem?_map] at hq
            cases hq' : ps.toList[j]? with
            | none => rw [hq'] at hq; cases hq
            | some q' =>
              rw [hq'] at hq
              injection hq with hq
              subst hq
              exact er j p q' hp hq') hrows
        have hrun : (Instr.build t (ps.map fun p => (p.1, a.eval p.2))).run E.P w = .ok (.agg o2) w := by
          refine run_build w t _ o2 ?_
          simp only [Program.built, hinf, hu, hz, hp]
          simpa using g1
        refine done_pure (o := ⟨dst, .build t ps, ty, pos, after, guard⟩) hn hh hx (.agg cs.toArray o2 (by simpa using g2.1) (fun j x y hx hy => g2.2 j x y (by simpa using hx) hy)) ?_
        simp only [execOp]
        have : (ps.map fun x => match x with | (i, x) => (i, a.eval x)) = ps.map fun p => (p.1, a.eval p.2) := rfl
        rw [this]
        simp only [Sem.run_bind, hrun, Result.andThen_ok, Sem.run_pure]
      · cases hx
  · cases hx

/-- A slice over a new block. -/
theorem new_slice {φ' : Nat → Nat × Nat} {n0 n m : Nat} {w1 : World} {cs us : Nat} {t : Nat} (h0 : φ' n0 = (w.heap.size, 0)) (hn : n0 < n) {ucs : Array Value} (hb : w1.heap[w.heap.size]? = some (.cells ucs t (0, 0))) {c' : Nat} (hm : m ≤ c') (hf : c' * E.P.cellsOf t ≤ ucs.size) :
    VR E.P E.base φ' n w1 (.slice (some ⟨n0, 0, none⟩) m m) (.slice (some ⟨w.heap.size, 0, none⟩) m c') := by
  have := VR.slice (P := E.P) (base := E.base) (φ := φ') (n := n) (w := w1) n0 0 m m c' hn hm (fun _ => ⟨t, ucs.size, by simp [World.shape?, h0, hb], by rw [h0]; simpa using hf⟩)
  rw [h0] at this
  exact this
theorem TFact.cellsOf {P : Program} {t : Nat} {i : TI} (F : TFact P t i) : P.cellsOf t = i.ks.length := by
  obtain ⟨f, z, hf, h1, _⟩ := F.inf
  simp [Program.cellsOf, hf, h1]

theorem op_buildSlice (hE : EnvOk E) (t : TypeId) (m : Nat) (ps : Array (Nat × Operand)) (hx : exOp E rec (.buildSlice t m ps) s h c = some r) (hs : SR E.P E.base φ h.length w s a) (hh : HR E.P E.base w0 φ h w) (hn : Cont E w0 φ h w dst a next c r) :
    (⟨dst, .buildSlice t m ps, ty, pos, after, guard⟩ : Oper).wp E.P a w next Q := by
  simp only [exOp] at hx
  split at hx
  · rename_i vs i h1 h2
    split at hx
    · rename_i j hj
      cases hb : (isSl i && Nat.blt 0 j.ks.length && Nat.ble (m * j.ks.length) 16777216) with
      | false => rw [hb] at hx; cases hx
      | true =>
        rw [hb] at hx
        simp only [cond_true] at hx
        simp only [Bool.and_eq_true, Nat.blt_eq] at hb
        obtain ⟨⟨hb0, hb1⟩, hb2⟩ := hb
        have hb2 := Nat.le_of_ble_eq_true hb2
        split at hx
        · rename_i cs hcs
          have F := hE.ti i.elem j hj
          obtain ⟨z, hz, hzc, hzl, hzf⟩ := F.zero w
          obtain ⟨el, er⟩ := evP_rel hs h1
          have hu := (hE.ti t i h2).slice hb0
          have hzs : z.cells.size = j.ks.length := by rw [← hzl, ← hzc]; simp
          let zs : Array Value := (Array.range (m * j.ks.length)).map ((if m * j.ks.length = 0 then #[] else z.cells)[· % (if m * j.ks.length = 0 then #[] else z.cells).size]!)
          have hrows : Rows2 E.P E.base φ h.length w (rep j.zero m) zs := by
            refine ⟨by simp [zs, rep_length, hzl], fun k x y hx hy => ?_⟩
            have hk : k < m * j.ks.length := by
              have := (List.getElem?_eq_some_iff.1 hx).1
              rw [rep_length, hzl] at this; exact this
            have hne : m * j.ks.length ≠ 0 := by omega
            rw [rep_get _ _ _ (by rw [hzl]; exact hk)] at hx
            simp only [zs, if_neg hne] at hy
            rw [zerosArr z.cells _ k (by omega) hk] at hy
            rw [← hzc] at hx
            simp only [Array.length_toList, Array.getElem?_toList] at hx
            rw [hx] at hy
            injection hy with hy
            subst hy
            exact VR.flat (hzf x (by rw [← hzc]; exact List.mem_of_getElem? (by simpa using hx)))
          obtain ⟨o2, g1, g2⟩ := fillR_sound (E := E) (w := w) (φ := φ) (h := h) j.ks.length vs (ps.toList.map fun p => (p.1, a.eval p.2)) (rep j.zero m) zs cs hcs (by simpa using el)
            (fun k p q hp hq => by
              rw [List.getElem?_map] at hq
              cases hq' : ps.toList[k]? with
              | none => rw [hq'] at hq; cases hq
              | some q' =>
                rw [hq'] at hq
                injection hq with hq
                subst hq
                exact er k p q' hp hq') hrows
          have hlen : cs.length = m * j.ks.length := by
            have : ∀ (vs : List (Nat × Value)) (cs out : List Value), fillR j.ks.length cs vs = some out → out.length = cs.length := by
              intro vs
              induction vs with
              | nil => intro cs out h; simp only [fillR] at h; injection h with h; rw [h]
              | cons p vs ih =>
                intro cs out h
                obtain ⟨k, v⟩ := p
                simp only [fillR] at h
                cases hb : (Nat.beq (cells v).length j.ks.length && Nat.ble (k * j.ks.length + j.ks.length) cs.length) with
                | false => rw [hb] at h; cases h
                | true =>
                  rw [hb] at h
                  simp only [cond_true] at h
                  simp only [Bool.and_eq_true] at hb
                  have e1 := Nat.eq_of_beq_eq_true hb.1
                  have e2 := Nat.le_of_ble_eq_true hb.2
                  rw [ih _ _ h]
                  simp [setAt]; omega
            rw [this vs _ _ hcs, rep_length, hzl]
          obtain ⟨φ', e1, e2, e3, e4, _⟩ := hh.push cs i.elem o2 (w.alloc (.cells o2 i.elem)) ⟨w.drawn, rfl⟩ (fun k v hv => by
            have hlt : k < o2.size := by rw [← g2.1]; exact (List.getElem?_eq_some_iff.1 hv).1
            exact ⟨_, Array.getElem?_eq_getElem hlt, fun _ => g2.2 k v _ hv (Array.getElem?_eq_getElem hlt)⟩)
          unfold Oper.wp
          have hrun : (execOp a.eval (⟨dst, .buildSlice t m ps, ty, pos, after, guard⟩ : Oper)).run E.P w = .ok (.value (.slice (some ⟨w.heap.size, 0, none⟩) m m)) (w.alloc (.cells o2 i.elem)) := by
            have hps : (ps.map fun x => match x with | (i, x) => (i, a.eval x)).toList = ps.toList.map fun p => (p.1, a.eval p.2) := by simp
            simp only [execOp, Instr.buildSlice, Sem.run_bind, TFact.under hu, Result.andThen_ok, F.size w]
            rw [if_neg (by omega)]
            by_cases h0 : m * j.ks.length = 0
            · simp only [h0, if_true, Sem.run_bind, Sem.run_pure, Result.andThen_ok, hps]
              simp only [zs, h0, if_true] at g1
              rw [g1]
              simp [newRow]
            · simp only [if_neg h0, Sem.run_bind, Sem.run_pure, hz, Result.andThen_ok, hps]
              simp only [zs, if_neg h0] at g1
              rw [g1]
              simp [newRow]
          rw [hrun]
          refine hn _ _ φ' _ _ hx e1 e2 (new_slice (E := E) (cs := 0) (us := 0) e3 (by simp) e4 (Nat.le_refl _) ?_)
          rw [F.cellsOf, ← g2.1, hlen]
          exact Nat.le_refl _
        · cases hx
    · cases hx
  · cases hx
end
end Go.Proofs.Ytgigdaijailfkaa.Am
