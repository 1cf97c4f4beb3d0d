/- Make, cuts, lengths, appends.
Conditions: the tables tell the program's types. -/
import Derived.Test.YtgigdaijailfkaaAm7
set_option linter.unusedSimpArgs false
set_option linter.unusedVariables false
namespace Go.Proofs.Ytgigdaijailfkaa.Am
open Go Go.RowKit

section
variable {R : Type} {E : Env} {w0 w : World} {φ : Nat → Nat × Nat} {h : AH} {s : Slots} {a : Act} {next : Act → World → Prop} {Q : Exit → Act → World → Prop} {r : R} {c : Value → AH → Option R}
  {rec : Rec} {dst : Option Tmp} {ty : TypeId} {pos : String} {after : Array Edge} {guard : Option (Nat × Bool)}

theorem zeros_rel {z : Value} {l : List Value} (hzc : z.cells.toList = l) (hzf : ∀ v ∈ l, flatZ v = true) (m : Nat) (arr : Array Value) (ha : arr.size = m * l.length)
    (hg : 0 < l.length → ∀ k, k < m * l.length → arr[k]? = z.cells[k % z.cells.size]?) : ∀ (k : Nat) (v : Value), (rep l m)[k]? = some v → arr[k]? = some v ∧ flatZ v = true := by
  intro k v hk
  have hlt : k < m * l.length := by
    have := (List.getElem?_eq_some_iff.1 hk).1
    rw [rep_length] at this; exact this
  have hpos : 0 < l.length := by
    rcases Nat.eq_zero_or_pos l.length with h0 | h0
    · rw [h0] at hlt; simp at hlt
    · exact h0
  rw [rep_get _ _ _ hlt] at hk
  refine ⟨?_, hzf v (List.mem_of_getElem? hk)⟩
  rw [hg hpos k hlt]
  have hs : z.cells.size = l.length := by rw [← hzc]; simp
  rw [hs, ← hk, ← hzc]
  simp

theorem op_makeSlice (hE : EnvOk E) (t : TypeId) (x y : Operand) (hx : exOp E rec (.makeSlice t x y) s h c = some r) (hs : SR E.P E.base φ h.length w s a) (hh : HR E.P E.base w0 φ h w) (hn : Cont E w0 φ h w dst a next c r) :
    (⟨dst, .makeSlice t x y, ty, pos, after, guard⟩ : Oper).wp E.P a w next Q := by
  simp only [exOp] at hx
  split at hx
  · rename_i n n' i h1 h2 h3
    split at hx
    · rename_i j hj
      cases hb : (isSl i && Nat.blt 0 j.ks.length) with
      | false => rw [hb] at hx; cases hx
      | true =>
        rw [hb] at hx
        simp only [Bool.not_true, cond_false] at hx
        simp only [Bool.and_eq_true, Nat.blt_eq] at hb
        split at hx
        · rename_i hc
          obtain ⟨rfl, hn0, hby, hmax⟩ := hc
          have F := hE.ti i.elem j hj
          obtain ⟨inf, z, hinf, hsz, hbytes, hz, hzc, hzl, hzf⟩ := F.inf
          have hu := (hE.ti t i h3).slice hb.1
          have e1 := (ev_rel hs h1).int_inv
          have e2 := (ev_rel hs h2).int_inv
          have hrun0 := run_make (P := E.P) w t i.elem inf z hu hinf hz .i64 .i64 n n hn0 (Int.le_refl _) (by rw [hbytes, Int.mul_comm]; omega) (by omega)
          have hzs : z.cells.size = j.ks.length := by rw [← hzl, ← hzc]; simp
          have hz2 := zeros_rel hzc (fun v hv => List.all_eq_true.1 hzf v hv) n.toNat (madeCells z.cells (n.toNat * inf.size)) (by rw [size_madeCells, hsz, hzl]) (fun hp k hk => by
            rw [hzl] at hk
            unfold madeCells
            exact zerosArr z.cells _ k (by omega) (by rw [hsz]; exact hk))
          obtain ⟨φ', g1, g2, g3, g4, _⟩ := hh.push (rep j.zero n.toNat) i.elem (madeCells z.cells (n.toNat * inf.size)) (w.alloc (.cells (madeCells z.cells (n.toNat * inf.size)) i.elem)) ⟨w.drawn, rfl⟩
            (fun k v hv => ⟨v, (hz2 k v hv).1, fun _ => VR.flat (hz2 k v hv).2⟩)
          unfold Oper.wp
          have hrun : (execOp a.eval (⟨dst, .makeSlice t x y, ty, pos, after, guard⟩ : Oper)).run E.P w = .ok (.value (.slice (some ⟨w.heap.size, 0, none⟩) n.toNat n.toNat)) (w.alloc (.cells (madeCells z.cells (n.toNat * inf.size)) i.elem)) := by
            simp only [execOp, e1, e2, Sem.run_bind, hrun0, Result.andThen_ok, Sem.run_pure]
          rw [hrun]
          refine hn _ _ φ' _ _ hx g1 g2 (new_slice (E := E) (cs := 0) (us := 0) g3 (by simp) g4 (Nat.le_refl _) ?_)
          rw [F.cellsOf, size_madeCells, hsz]
          exact Nat.le_refl _
        · cases hx
    · cases hx
  · cases hx

theorem bound_rel (hs : SR E.P E.base φ h.length w s a) {x : Option Operand} {d l : Int} (hb : bound s x d = some l) : (x = none ∧ l = d) ∨ ∃ y k, x = some y ∧ a.eval y = .int k l := by
  cases x with
  | none => simp only [bound] at hb; injection hb with hb; exact .inl ⟨rfl, hb.symm⟩
  | some y =>
    simp only [bound] at hb
    split at hb
    · rename_i k n hv
      injection hb with hb
      subst hb
      exact .inr ⟨y, k, rfl, (ev_rel hs hv).int_inv⟩
    · cases hb

theorem bounds_run {isS : Bool} {len cap : Nat} (hcap : len ≤ cap) {lo hi : Option Operand} {l r' : Int} (hlo : (lo = none ∧ l = 0) ∨ ∃ y k, lo = some y ∧ a.eval y = .int k l) (hhi : (hi = none ∧ r' = (len : Int)) ∨ ∃ y k, hi = some y ∧ a.eval y = .int k r')
    (h0 : 0 ≤ l) (h1 : l ≤ r') (h2 : r' ≤ (len : Int)) : (Instr.sliceBounds isS len cap (lo.map a.eval) (hi.map a.eval) none).run E.P w = .ok (l.toNat, r'.toNat, cap) w := by
  have hr : r' ≤ ((cap : Nat) : Int) := by omega
  have hl : l ≤ ((r'.toNat : Nat) : Int) := by omega
  rcases hlo with ⟨rfl, rfl⟩ | ⟨y, k, rfl, ey⟩ <;> rcases hhi with ⟨rfl, rfl⟩ | ⟨y2, k2, rfl, ey2⟩
  · simp [Instr.sliceBounds]
  · simp [Instr.sliceBounds, ey2, run_sliceBound, hr, (by omega : 0 ≤ r')]
  · have : l ≤ ((len : Nat) : Int) := by omega
    simp [Instr.sliceBounds, ey, run_sliceBound, h0, this]
  · have h3 : l ≤ max r' 0 := by omega
    simp [Instr.sliceBounds, ey, ey2, run_sliceBound, hr, (by omega : 0 ≤ r'), h0, h3]

theorem op_slice (hE : EnvOk E) (t : TypeId) (x : Operand) (lo hi mx : Option Operand) (hx : exOp E rec (.slice t x lo hi mx) s h c = some r) (hs : SR E.P E.base φ h.length w s a) (hh : HR E.P E.base w0 φ h w) (hn : Cont E w0 φ h w dst a next c r) :
    (⟨dst, .slice t x lo hi mx, ty, pos, after, guard⟩ : Oper).wp E.P a w next Q := by
  cases mx with
  | some m => simp only [exOp] at hx; cases hx
  | none =>
    simp only [exOp] at hx
    split at hx
    · rename_i v h1
      split at hx
      · rename_i l r' i h2 h3 h4
        cases hb : isK .str i with
        | false => rw [hb] at hx; cases hx
        | true =>
          rw [hb] at hx
          simp only [Bool.not_true, cond_false] at hx
          split at hx
          · rename_i hc
            have e := (ev_rel hs h1).str_inv
            have hu := (hE.ti t i h4).str hb
            have hbd := bounds_run (E := E) (w := w) (isS := false) (cap := v.size) (Nat.le_refl _) (bound_rel hs h2) (bound_rel hs h3) hc.1 hc.2.1 hc.2.2
            refine done_pure (o := ⟨dst, .slice t x lo hi none, ty, pos, after, guard⟩) hn hh hx (.str _) ?_
            simp only [execOp, e, Option.map_none, Instr.sliceAt, Sem.run_bind, TFact.under hu, Result.andThen_ok, Instr.slice]
            simp [hbd]
          · cases hx
      · cases hx
    · rename_i ad n c0 h1
      split at hx
      · rename_i i hi'
        split at hx
        · rename_i j hj
          split at hx
          · rename_i l r' h2 h3
            cases hb : isSl i with
            | false => rw [hb] at hx; cases hx
            | true =>
              rw [hb] at hx
              simp only [Bool.not_true, cond_false] at hx
              split at hx
              · rename_i hc
                obtain ⟨hc1, hc2, hc3, hc4⟩ := hc
                have F := hE.ti i.elem j hj
                have hu := (hE.ti t i hi').slice hb
                obtain ⟨a', c', e, hm, hor⟩ := (ev_rel hs h1).slice_inv
                have hbd := bounds_run (E := E) (w := w) (isS := true) hm (bound_rel hs h2) (bound_rel hs h3) hc1 hc2 hc3
                refine done_pure (o := ⟨dst, .slice t x lo hi none, ty, pos, after, guard⟩) (u := .slice (if c' = l.toNat then a' else a'.map (·.add (l.toNat * j.ks.length))) (r'.toNat - l.toNat) (c' - l.toNat)) hn hh hx ?_ ?_
                · rcases hor with ⟨hn0, hc0, had⟩ | ⟨z, hz, hsp, hlt, ha', hroom⟩
                  · subst hn0; subst hc0
                    have hl0 : l = 0 := by omega
                    have hr0 : r' = 0 := by omega
                    subst hl0; subst hr0
                    simp only [Int.toNat_zero, Nat.sub_self, if_true]
                    refine .empty _ _ _ fun x hx => ?_
                    cases ad with
                    | none => cases hx
                    | some y =>
                      simp only [shiftA, Option.map_some] at hx
                      injection hx with hx
                      subst hx
                      exact ⟨rfl, (had y rfl).2⟩
                  · subst hz
                    by_cases hcl : c' = l.toNat
                    · rw [if_pos hcl]
                      have e1 : r'.toNat - l.toNat = 0 := by omega
                      have e2 : c' - l.toNat = 0 := by omega
                      rw [e1, e2]
                      refine .empty _ _ _ fun x hx => ?_
                      simp only [shiftA, Option.map_some] at hx
                      injection hx with hx
                      subst hx
                      exact ⟨rfl, hlt⟩
                    · rw [if_neg hcl, ha']
                      have hadd : (⟨(φ z.block).1, (φ z.block).2 + z.off, none⟩ : Addr).add (l.toNat * j.ks.length) = ⟨(φ z.block).1, (φ z.block).2 + (z.off + l.toNat * j.ks.length), none⟩ := by
                        unfold Addr.add
                        split
                        · rename_i h0; rw [h0]; rfl
                        · simp [Nat.add_assoc]
                      simp only [Option.map_some, hadd, shiftA]
                      refine .slice _ _ _ _ _ hlt (by omega) fun hbs => ?_
                      obtain ⟨e', sz, g1, g2⟩ := hroom hbs
                      refine ⟨e', sz, g1, ?_⟩
                      unfold okTy at hc4
                      rcases Nat.eq_zero_or_pos l.toNat with h0 | hpos
                      · rw [h0]; simpa using g2
                      · have hbeq : Nat.beq l.toNat 0 = false := by
                          cases hq : Nat.beq l.toNat 0 with
                          | false => rfl
                          | true => have := Nat.eq_of_beq_eq_true hq; omega
                        rw [hbeq] at hc4
                        simp only [Bool.false_or] at hc4
                        have hty : E.P.cellsOf e' = j.ks.length := by
                          cases hlow : Nat.blt z.block E.base with
                          | true =>
                            have hzb : z.block < E.base := by simpa [Nat.blt_eq] using hlow
                            rw [hh.lo z.block hzb] at hbs
                            simp at hbs
                            omega
                          | false =>
                            rw [hlow] at hc4
                            simp only [Bool.false_or] at hc4
                            cases hk : hget h z.block with
                            | none => rw [hk] at hc4; cases hc4
                            | some k =>
                              rw [hk] at hc4
                              have hkt := Nat.eq_of_beq_eq_true hc4
                              obtain ⟨cs, fr, q1, _⟩ := hh.blk z.block k hk
                              simp only [World.shape?, q1] at g1
                              injection g1 with g1
                              injection g1 with g1 _
                              rw [← g1, hkt]
                              exact F.cellsOf
                        
                        rw [hty] at g2 ⊢
                        have : l.toNat * j.ks.length + (c' - l.toNat) * j.ks.length = c' * j.ks.length := by rw [← Nat.add_mul]; congr 1; omega
                        omega
                · simp only [execOp, e, Option.map_none, Instr.sliceAt, Sem.run_bind, TFact.under hu, Result.andThen_ok, Instr.slice, hbd, F.size w, Sem.run_pure]
              · cases hx
          · cases hx
        · cases hx
      · cases hx
    · cases hx
end
end Go.Proofs.Ytgigdaijailfkaa.Am
