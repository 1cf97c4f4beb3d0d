/- What is read before, type by type: numbers, strings, flags, structs and rows of them.
Conditions: the types lead to nothing else. -/
import Derived.Test.YtgigdaijailfkaaAm23
import Derived.ChangeArms
import Derived.OpenShut
set_option linter.unusedSimpArgs false
set_option linter.unusedVariables false
namespace Go.Proofs.Ytgigdaijailfkaa.Am
open Go Go.RowKit

def Rd (P : Program) (h : AH) : Nat → Nat → List Value → Prop
  | 0, _, _ => False
  | f + 1, t, cs => match P.underlying t with
    | some .bool => ∃ b, cs = [.bool b]
    | some (.int k) => ∃ n, cs = [.int k n] ∧ (Lit.int k n).wf = true
    | some .string => ∃ s : ByteArray, cs = [.string s] ∧ s.size ≤ maxLen
    | some (.slice e) => ∃ a n vs, cs = [.slice a n n] ∧ n ≤ maxLen ∧ Sl h a vs ∧ vs.length = n * P.cellsOf e ∧ ∀ i, i < n → Rd P h f e ((vs.drop (i * P.cellsOf e)).take (P.cellsOf e))
    | some (.struct fs) => cs.length = P.cellsOf t ∧ ∀ fd ∈ fs.toList, Rd P h f fd.type ((cs.drop fd.offset).take (P.cellsOf fd.type))
    | _ => False

/-- A closed lot of such types. -/
def okS (P : Program) (S : List Nat) : Bool := S.all fun t => match P.underlying t with
  | some .bool => true
  | some (.int _) => true
  | some .string => true
  | some (.slice e) => S.contains e && Nat.blt 0 (P.cellsOf e)
  | some (.struct fs) => fs.toList.all (fun f => S.contains f.type) && (List.range (P.cellsOf t)).all fun j => fs.toList.any fun f => Nat.ble f.offset j && Nat.blt j (f.offset + P.cellsOf f.type)
  | _ => false

theorem addr_add_add (a : Addr) (x y : Nat) : (a.add x).add y = a.add (x + y) := by
  obtain ⟨b, o, s⟩ := a
  unfold Addr.add
  by_cases hx : x = 0
  · subst hx; simp
  · by_cases hy : y = 0
    · subst hy; simp [hx]
    · simp [hx, hy, Nat.add_assoc]

theorem cells_each {w : World} {base : Nat} {a : Addr} {n : Nat} {l : List Value} (h : w.cells? base a n = some l) : l.length = n ∧ ∀ i, i < n → w.cell? (a.add i) = l[i]? := by
  unfold World.cells? at h
  split at h
  · have hl := mapM_some_length h
    simp at hl
    refine ⟨hl, fun i hi => ?_⟩
    have := mapM_some_get h i i (by simp [hi])
    exact this
  · cases h

section
variable {P : Program} {W : World} {H : Type} {enc : TypeId × Value → H} {S : List Nat}

theorem trod_rd (hS : okS P S = true) : ∀ (fuel t : Nat) (cs : List Value) (x : DataW H × List MemPlace), t ∈ S → DataW.trod enc P W 0 (fun _ => true) true fuel t cs = some x →
    Rd P (h0 W) fuel t (cs.map (tell W.heap.size)) ∧ ∀ c ∈ cs, tame W.heap.size c = true := by
  intro fuel
  induction fuel with
  | zero => intro t cs x _ h; simp [DataW.trod] at h
  | succ f ih =>
    intro t cs x ht h
    have hok := List.all_eq_true.1 hS t ht
    have h0 := h
    unfold DataW.trod at h
    simp only [Rd]
    cases hu : P.underlying t with
    | none => rw [hu] at hok; cases hok
    | some d =>
      rw [hu] at hok h
      cases d <;> simp only at hok <;> first | (cases hok; done) | skip
      case bool =>
        split at h <;> first | (cases h; done) | skip
        all_goals (rename_i e1; first | (cases e1; done) | skip)
        exact ⟨⟨_, rfl⟩, fun c hc => by simp at hc; subst hc; rfl⟩
      case int k =>
        split at h <;> first | (cases h; done) | skip
        all_goals (rename_i e1; first | (cases e1; done) | skip)
        split at h
        · rename_i hk
          injection e1 with e1
          injection e1 with e1
          subst e1
          obtain ⟨rfl, hw⟩ := hk
          exact ⟨⟨_, rfl, hw⟩, fun c hc => by simp at hc; subst hc; rfl⟩
        · cases h
      case string =>
        split at h <;> first | (cases h; done) | skip
        all_goals (rename_i e1; first | (cases e1; done) | skip)
        split at h
        · rename_i hk
          exact ⟨⟨_, rfl, hk⟩, fun c hc => by simp at hc; subst hc; rfl⟩
        · cases h
      case slice e =>
        simp only [Bool.and_eq_true, Nat.blt_eq] at hok
        obtain ⟨he, hc⟩ := hok
        have he : e ∈ S := by simpa using he
        rcases DataW.trod_slice hu h0 with ⟨rfl, _⟩ | ⟨a, len, cap, elems, rest, n, hn, rfl, _, _, hl, hm, hel, hget, hrest, _⟩
        · exact ⟨⟨none, 0, [], rfl, by simp [maxLen], .inl rfl, by simp, fun i hi => by omega⟩, fun c hc => by simp at hc; subst hc; rfl⟩
        · injection hn with hn
          subst hn
          by_cases hcap : cap = 0
          · subst hcap
            have : len = 0 := by omega
            subst this
            exact ⟨⟨none, 0, [], rfl, by simp [maxLen], .inl rfl, by simp, fun i hi => by omega⟩, fun c hc => by simp at hc; subst hc; rfl⟩
          · have first : ∃ u, W.cell? (a.add 0) = some u := by
              by_cases hlen : len = 0
              · obtain ⟨hr1, hr2⟩ := hrest rfl
                have h1 := hr2 0 (by omega)
                rw [hlen, Nat.zero_add, Nat.zero_mul, List.getElem?_eq_getElem (by omega)] at h1
                cases hcs : W.cells? 0 (a.add 0) (P.cellsOf e) with
                | none => rw [hcs] at h1; cases h1
                | some l =>
                  obtain ⟨q1, q2⟩ := cells_each hcs
                  have := q2 0 hc
                  rw [addr_add_add] at this
                  exact ⟨l[0], by rw [this, List.getElem?_eq_getElem (by omega)]⟩
              · have h1 := hget 0 (by omega)
                rw [Nat.zero_mul, List.getElem?_eq_getElem (by omega)] at h1
                cases hcs : W.cells? 0 (a.add 0) (P.cellsOf e) with
                | none => rw [hcs] at h1; cases h1
                | some l =>
                  obtain ⟨q1, q2⟩ := cells_each hcs
                  have := q2 0 hc
                  rw [addr_add_add] at this
                  exact ⟨l[0], by rw [this, List.getElem?_eq_getElem (by omega)]⟩
            obtain ⟨u0, hu0⟩ := first
            obtain ⟨cs0, t0, fr0, hb, hs, _⟩ := cell_spot (x := a) hu0
            have hlt : a.block < W.heap.size := (Array.getElem?_eq_some_iff.1 hb).1
            have hcb : Nat.beq cap 0 = false := by
              cases hq : Nat.beq cap 0 with
              | false => rfl
              | true => exact absurd (Nat.eq_of_beq_eq_true hq) hcap
            have htame : tame W.heap.size (.slice (some a) len cap) = true := by
              have h1 : Nat.blt a.block W.heap.size = true := by simpa [Nat.blt_eq] using hlt
              have h2 : Nat.ble len cap = true := Nat.ble_eq_true_of_le hl
              simp [tame, hcb, hs, h1, h2]
            have htell : tell W.heap.size (.slice (some a) len cap) = .slice (some a) len len := by
              unfold tell
              rw [htame]
              simp only [cond_true, told, hcb, cond_false]
            -- the elements
            have each : ∀ i, i < len → ∃ l y, W.cells? 0 (a.add (i * P.cellsOf e)) (P.cellsOf e) = some l ∧ DataW.trod enc P W 0 (fun _ => true) true f e l = some y := by
              intro i hi
              have h1 := hget i hi
              rw [List.getElem?_eq_getElem (by omega)] at h1
              cases hcs : W.cells? 0 (a.add (i * P.cellsOf e)) (P.cellsOf e) with
              | none => rw [hcs] at h1; cases h1
              | some l => rw [hcs] at h1; exact ⟨l, _, rfl, h1⟩
            let g : Nat → Value := fun j => (W.cell? (a.add j)).getD undef
            have hg : ∀ i r, i < len → r < P.cellsOf e → W.cell? (a.add (i * P.cellsOf e + r)) = some (g (i * P.cellsOf e + r)) := by
              intro i r hi hr
              obtain ⟨l, y, h1, _⟩ := each i hi
              obtain ⟨q1, q2⟩ := cells_each h1
              have := q2 r hr
              rw [addr_add_add, List.getElem?_eq_getElem (by omega)] at this
              simp only [g, this, Option.getD_some]
            have hg2 : ∀ j, j < len * P.cellsOf e → W.cell? (a.add j) = some (g j) := by
              intro j hj
              have h1 : j / P.cellsOf e < len := Nat.div_lt_of_lt_mul (by rw [Nat.mul_comm]; exact hj)
              have h2 : j % P.cellsOf e < P.cellsOf e := Nat.mod_lt _ hc
              have h3 := hg _ _ h1 h2
              have h4 : j / P.cellsOf e * P.cellsOf e + j % P.cellsOf e = j := by rw [Nat.mul_comm]; exact Nat.div_add_mod j _
              rw [h4] at h3
              exact h3
            refine ⟨⟨some a, len, ((List.range (len * P.cellsOf e)).map g).map (tell W.heap.size), by rw [List.map_singleton, htell], by omega, h0_sl (fun i v hi => ?_), by simp, fun i hi => ?_⟩, fun c hc => by simp at hc; subst hc; exact htame⟩
            · have hlt2 : i < len * P.cellsOf e := by
                have := (List.getElem?_eq_some_iff.1 hi).1
                simpa using this
              simp [hlt2] at hi
              rw [hg2 i hlt2, hi]
            · obtain ⟨l, y, h1, h2⟩ := each i hi
              obtain ⟨q1, q2⟩ := cells_each h1
              have e1 : (((List.range (len * P.cellsOf e)).map g).drop (i * P.cellsOf e)).take (P.cellsOf e) = l := by
                have hle : (i + 1) * P.cellsOf e ≤ len * P.cellsOf e := Nat.mul_le_mul_right _ (by omega)
                rw [Nat.add_mul, Nat.one_mul] at hle
                apply List.ext_getElem?
                intro r
                by_cases hr : r < P.cellsOf e
                · rw [List.getElem?_take_of_lt hr, List.getElem?_drop, List.getElem?_map, List.getElem?_range (by omega)]
                  simp only [Option.map_some]
                  rw [← q2 r hr, addr_add_add, hg i r hi hr]
                · rw [List.getElem?_eq_none (by simp; omega), List.getElem?_eq_none (by omega)]
              rw [← List.map_drop, ← List.map_take, e1]
              exact (ih e l y he h2).1
      case struct fs =>
        simp only [Bool.and_eq_true] at hok
        obtain ⟨hf, hcov⟩ := hok
        obtain ⟨xs, n, hn, _, hlen, hxl, hget⟩ := DataW.trod_struct hu h0
        injection hn with hn
        subst hn
        have each : ∀ fd ∈ fs.toList, ∃ y, DataW.trod enc P W 0 (fun _ => true) true f fd.type ((cs.drop fd.offset).take (P.cellsOf fd.type)) = some y ∧ fd.type ∈ S := by
          intro fd hfd
          obtain ⟨i, hi, rfl⟩ := List.mem_iff_getElem.1 hfd
          have hi' : i < fs.size := by simpa using hi
          have := hget i fs[i] (Array.getElem?_eq_getElem hi')
          rw [List.getElem?_eq_getElem (by omega)] at this
          have hm := List.all_eq_true.1 hf _ hfd
          exact ⟨_, by simpa using this, by simpa using hm⟩
        refine ⟨⟨by simpa using hlen, fun fd hfd => ?_⟩, fun c hc => ?_⟩
        · obtain ⟨y, h1, h2⟩ := each fd hfd
          have := (ih fd.type _ y h2 h1).1
          rw [List.map_take, List.map_drop] at this
          exact this
        · obtain ⟨j, hj, rfl⟩ := List.mem_iff_getElem.1 hc
          have h1 := List.all_eq_true.1 hcov j (by simp; omega)
          obtain ⟨fd, hfd, h2⟩ := List.any_eq_true.1 h1
          simp only [Bool.and_eq_true, Nat.blt_eq] at h2
          have h3 := Nat.le_of_ble_eq_true h2.1
          obtain ⟨y, h4, h5⟩ := each fd hfd
          refine (ih fd.type _ y h5 h4).2 cs[j] ?_
          have hlt : j - fd.offset < P.cellsOf fd.type := by omega
          have : ((cs.drop fd.offset).take (P.cellsOf fd.type))[j - fd.offset]? = some cs[j] := by
            rw [List.getElem?_take_of_lt hlt, List.getElem?_drop, show fd.offset + (j - fd.offset) = j from by omega, List.getElem?_eq_getElem hj]
          exact List.mem_of_getElem? this
end

/-- A parameter, told. -/
def absV (n : Nat) : Value → Value
  | .agg cs => .agg (cs.toList.map (tell n)).toArray
  | v => tell n v
theorem absV_rel {P : Program} {n : Nat} {w : World} {v : Value} (h : ∀ c ∈ v.cells.toList, tame n c = true) : VR P n φ0 n w (absV n v) v := by
  cases v with
  | agg cs =>
    refine .agg _ _ (by simp) fun i x y hx hy => ?_
    have hy' : cs.toList[i]? = some y := by simpa using hy
    have hx' : x = tell n y := by
      simp at hx
      obtain ⟨z, h1, h2⟩ := hx
      have h1' : cs[i]? = some z := h1
      have : cs[i]? = some y := by simpa using hy
      rw [h1'] at this
      injection this with this
      subst this
      exact h2.symm
    rw [hx']
    exact tell_rel (h y (by simp only [Value.cells]; exact List.mem_of_getElem? hy'))
  | _ => exact tell_rel (h _ (by simp [Value.cells]))

section
variable {P : Program} {h : AH} {f t : Nat} {cs : List Value}
theorem Rd.int {k : IntKind} (x : Rd P h f t cs) (hu : P.underlying t = some (.int k)) : ∃ n, cs = [.int k n] ∧ (Lit.int k n).wf = true := by
  cases f with
  | zero => exact x.elim
  | succ f => simp only [Rd, hu] at x; exact x
theorem Rd.bool (x : Rd P h f t cs) (hu : P.underlying t = some .bool) : ∃ b, cs = [.bool b] := by
  cases f with
  | zero => exact x.elim
  | succ f => simp only [Rd, hu] at x; exact x
theorem Rd.str (x : Rd P h f t cs) (hu : P.underlying t = some .string) : ∃ s : ByteArray, cs = [.string s] ∧ s.size ≤ maxLen := by
  cases f with
  | zero => exact x.elim
  | succ f => simp only [Rd, hu] at x; exact x
theorem Rd.slice {e : Nat} (x : Rd P h f t cs) (hu : P.underlying t = some (.slice e)) : ∃ g a n vs, cs = [.slice a n n] ∧ n ≤ maxLen ∧ Sl h a vs ∧ vs.length = n * P.cellsOf e ∧ ∀ i, i < n → Rd P h g e ((vs.drop (i * P.cellsOf e)).take (P.cellsOf e)) := by
  cases f with
  | zero => exact x.elim
  | succ f =>
    simp only [Rd, hu] at x
    obtain ⟨a, n, vs, h1⟩ := x
    exact ⟨f, a, n, vs, h1⟩
theorem Rd.struct {fs : Array Field} (x : Rd P h f t cs) (hu : P.underlying t = some (.struct fs)) : cs.length = P.cellsOf t ∧ ∃ g, ∀ fd ∈ fs.toList, Rd P h g fd.type ((cs.drop fd.offset).take (P.cellsOf fd.type)) := by
  cases f with
  | zero => exact x.elim
  | succ f =>
    simp only [Rd, hu] at x
    exact ⟨x.1, f, x.2⟩
/-- A row of numbers. -/
theorem Rd.ints {e : Nat} {k : IntKind} (x : Rd P h f t cs) (hu : P.underlying t = some (.slice e)) (he : P.underlying e = some (.int k)) (hc : P.cellsOf e = 1) :
    ∃ a zs, cs = [.slice a (List.length zs) (List.length zs)] ∧ zs.length ≤ maxLen ∧ Sl h a (iv k zs) ∧ ∀ n ∈ zs, (Lit.int k n).wf = true := by
  obtain ⟨g, a, n, vs, h1, h2, h3, h4, h5⟩ := x.slice hu
  rw [hc] at h4 h5
  simp only [Nat.mul_one] at h4 h5
  have each : ∀ i, i < n → ∃ z, vs[i]? = some (.int k z) ∧ (Lit.int k z).wf = true := by
    intro i hi
    obtain ⟨z, h6, h7⟩ := (h5 i hi).int he
    have h8 : ((vs.drop i).take 1)[0]? = some (.int k z) := by rw [h6]; rfl
    rw [List.getElem?_take_of_lt (by decide), List.getElem?_drop] at h8
    exact ⟨z, h8, h7⟩
  let z : Nat → Int := fun i => if hi : i < n then (each i hi).choose else 0
  have hz : ∀ i, i < n → vs[i]? = some (.int k (z i)) ∧ (Lit.int k (z i)).wf = true := by
    intro i hi
    simp only [z, hi, dite_true]
    exact (each i hi).choose_spec
  have e1 : vs = iv k ((List.range n).map z) := by
    apply List.ext_getElem?
    intro i
    by_cases hi : i < n
    · rw [(hz i hi).1]; simp [iv, hi]
    · rw [List.getElem?_eq_none (by omega), List.getElem?_eq_none (by simp; omega)]
  refine ⟨a, (List.range n).map z, by simpa using h1, by simpa using h2, e1 ▸ h3, fun m hm => ?_⟩
  simp only [List.mem_map, List.mem_range] at hm
  obtain ⟨i, hi, rfl⟩ := hm
  exact (hz i hi).2
end
end Go.Proofs.Ytgigdaijailfkaa.Am
