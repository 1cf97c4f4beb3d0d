/- Rows of numbers that are there before.
Conditions: none. -/
import Derived.Test.YtgigdaijailfkaaAm22
set_option linter.unusedSimpArgs false
set_option linter.unusedVariables false
namespace Go.Proofs.Ytgigdaijailfkaa.Am
open Go Go.RowKit

theorem h0_len (W : World) : (h0 W).length = W.heap.size := by simp [h0]
theorem cell_spot {W : World} {x : Addr} {v : Value} (h : W.cell? x = some v) : ∃ cs t fr, W.heap[x.block]? = some (.cells cs t fr) ∧ x.spot = none ∧ cs[x.off]? = some v := by
  unfold World.cell? at h
  split at h
  · rename_i cs t fr hb
    split at h
    · cases h
    · rename_i hs
      exact ⟨cs, t, fr, hb, by cases hq : x.spot with | none => rfl | some _ => rw [hq] at hs; simp at hs, h⟩
  · cases h
theorem h0_block {W : World} {b : Nat} {cs : Array Value} {t : TypeId} {fr : Nat × Nat} (h : W.heap[b]? = some (.cells cs t fr)) : hget (h0 W) b = some ⟨cs.toList.map (tell W.heap.size), t⟩ := by
  rw [hget_some]
  simp only [h0, List.getElem?_map]
  have : W.heap.toList[b]? = some (.cells cs t fr) := by simpa using h
  rw [this]
  rfl
/-- Cells that are there before. -/
theorem h0_sl {W : World} {x : Addr} {vs : List Value} (hc : ∀ (i : Nat) (v : Value), vs[i]? = some v → W.cell? (x.add i) = some v) : Sl (h0 W) (some x) (vs.map (tell W.heap.size)) := by
  cases vs with
  | nil => exact .inl rfl
  | cons v vs =>
    have h1 := hc 0 v rfl
    have e0 : x.add 0 = x := rfl
    rw [e0] at h1
    obtain ⟨cs, t, fr, hb, hs, _⟩ := cell_spot h1
    have each : ∀ (i : Nat) (u : Value), (v :: vs)[i]? = some u → cs[x.off + i]? = some u := by
      intro i u hu
      have h2 := hc i u hu
      have e : x.add i = ⟨x.block, x.off + i, none⟩ := by
        obtain ⟨b, o, sp⟩ := x
        simp only at hs
        subst hs
        exact addr_add b o i
      rw [e] at h2
      obtain ⟨cs', t', fr', hb', _, hc'⟩ := cell_spot h2
      simp only at hb' hc'
      rw [hb] at hb'
      injection hb' with hb'
      injection hb' with hb' _ _
      subst hb'
      exact hc'
    refine .inr ⟨x, _, rfl, h0_block hb, ?_, fun i u hu => ?_⟩
    · have hlt : (v :: vs).length - 1 < (v :: vs).length := by simp
      have := each _ _ (List.getElem?_eq_getElem hlt)
      have := (Array.getElem?_eq_some_iff.1 this).1
      simp only [List.length_map, Array.length_toList]
      simp at this ⊢
      omega
    · simp only [List.getElem?_map] at hu ⊢
      cases hq : (v :: vs)[i]? with
      | none => rw [hq] at hu; cases hu
      | some u' =>
        rw [hq] at hu
        have := each i u' hq
        have : cs.toList[x.off + i]? = some u' := by simpa using this
        rw [this]
        exact hu

/-- A row of numbers, as the walk finds it. -/
def IsRow (k : IntKind) (w : World) (a : Option Addr) (len cap : Nat) (zs : List Int) : Prop :=
  (a = none ∧ len = 0 ∧ cap = 0 ∧ zs = []) ∨
  ∃ x, a = some x ∧ len ≤ cap ∧ cap ≤ maxLen ∧ zs.length = cap ∧ (∀ i, i < zs.length → w.cell? (x.add i) = some (.int k (zs.getD i 0))) ∧ ∀ n ∈ zs, (Lit.int k n).wf = true
theorem tell_int (n : Nat) (k : IntKind) (m : Int) : tell n (.int k m) = .int k m := rfl
theorem IsRow.open {k : IntKind} {W : World} {a : Option Addr} {len cap : Nat} {zs : List Int} (h : IsRow k W a len cap zs) :
    tame W.heap.size (.slice a len cap) = true ∧ ∃ a', tell W.heap.size (.slice a len cap) = .slice a' len len ∧ Sl (h0 W) a' (iv k (zs.take len)) ∧ (zs.take len).length = len ∧ ∀ n ∈ zs.take len, (Lit.int k n).wf = true := by
  rcases h with ⟨rfl, rfl, rfl, rfl⟩ | ⟨x, rfl, hl, hm, hz, hc, hw⟩
  · exact ⟨rfl, none, rfl, .inl rfl, rfl, fun n hn => by simp at hn⟩
  · have hlen : (zs.take len).length = len := by simp; omega
    by_cases h0 : cap = 0
    · subst h0
      have : len = 0 := by omega
      subst this
      exact ⟨rfl, none, rfl, .inl rfl, rfl, fun n hn => by simp at hn⟩
    · have c0 := hc 0 (by omega)
      obtain ⟨cs, t, fr, hb, hs, _⟩ := cell_spot (x := x) c0
      have hlt : x.block < W.heap.size := (Array.getElem?_eq_some_iff.1 hb).1
      have hcb : Nat.beq cap 0 = false := by
        cases hq : Nat.beq cap 0 with
        | false => rfl
        | true => exact absurd (Nat.eq_of_beq_eq_true hq) h0
      have ht : tame W.heap.size (.slice (some x) len cap) = true := by
        have h1 : Nat.blt x.block W.heap.size = true := by simpa [Nat.blt_eq] using hlt
        have h2 : Nat.ble len cap = true := Nat.ble_eq_true_of_le hl
        simp [tame, hcb, hs, h1, h2]
      refine ⟨ht, some x, ?_, ?_, hlen, fun n hn => hw n (List.mem_of_mem_take hn)⟩
      · unfold tell
        rw [ht]
        simp only [cond_true, told, hcb, cond_false]
      · have := h0_sl (W := W) (x := x) (vs := iv k (zs.take len)) (fun i v hi => by
          have hlt2 : i < len := by
            have := (List.getElem?_eq_some_iff.1 hi).1
            simp at this
            omega
          have hz2 : i < zs.length := by omega
          rw [hc i hz2]
          simp only [iv, List.getElem?_map, List.getElem?_take_of_lt hlt2, List.getElem?_eq_getElem hz2, Option.map_some] at hi
          injection hi with hi
          rw [← hi]
          simp [hz2])
        have e : (iv k (zs.take len)).map (tell W.heap.size) = iv k (zs.take len) := by
          simp only [iv, List.map_map]
          rfl
        rw [e] at this
        exact this
end Go.Proofs.Ytgigdaijailfkaa.Am
