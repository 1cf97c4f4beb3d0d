/- Operations that write, cut, and reckon with lengths.
Conditions: the tables tell the program's types. -/
import Derived.Test.YtgigdaijailfkaaAm4
import Derived.ArgAppend
import Derived.Laws.Slices
import Derived.Laws.MakeOwn
set_option linter.unusedSimpArgs false
set_option linter.unusedVariables false
namespace Go.Proofs.Ytgigdaijailfkaa.Am
open Go Go.RowKit

theorem VR.oneCell {P : Program} {base : Nat} {φ : Nat → Nat × Nat} {n : Nat} {w : World} {v u : Value} (h : VR P base φ n w v u) (hl : leaf v = true) : u.oneCell' = true := by
  cases h <;> first | rfl | (simp [leaf] at hl)

theorem hget_set_self {h : AH} {b : Nat} {x : Option Blk} (hb : b < h.length) : hget (h.set b x) b = x := by
  unfold hget; rw [List.getElem?_set_self hb]; rfl
theorem hget_set_ne {h : AH} {b i : Nat} {x : Option Blk} (hb : b ≠ i) : hget (h.set b x) i = hget h i := by
  unfold hget; rw [List.getElem?_set_ne hb]

theorem setAt_get {cs vs : List Value} {o : Nat} (ho : o + vs.length ≤ cs.length) (j : Nat) :
    (setAt cs o vs)[j]? = if o ≤ j ∧ j < o + vs.length then vs[j - o]? else cs[j]? := by
  unfold setAt
  by_cases h1 : j < o
  · rw [if_neg (by omega), List.append_assoc, List.getElem?_append_left (by simp; omega), List.getElem?_take_of_lt h1]
  · by_cases h2 : j < o + vs.length
    · rw [if_pos ⟨by omega, h2⟩, List.append_assoc, List.getElem?_append_right (by simp; omega), List.getElem?_append_left (by simp; omega)]
      congr 1
      simp; omega
    · rw [if_neg (by omega), List.getElem?_append_right (by simp; omega), List.getElem?_drop]
      congr 1
      simp; omega

section
variable {R : Type} {E : Env} {w0 w : World} {φ : Nat → Nat × Nat} {h : AH} {s : Slots} {a : Act} {next : Act → World → Prop} {Q : Exit → Act → World → Prop} {r : R} {c : Value → AH → Option R}
  {rec : Rec} {dst : Option Tmp} {ty : TypeId} {pos : String} {after : Array Edge} {guard : Option (Nat × Bool)}

theorem setRow_shape (w : World) (g : Nat) (old cs : Array Value) (t : TypeId) (fr : Nat × Nat) (hg : w.heap[g]? = some (.cells old t fr)) (hs : cs.size = old.size) : ShapeLe w (w.setRow g cs) := by
  intro b x hx
  by_cases e : b = g
  · subst e
    simp only [World.shape?, setRow_heap w b old cs t fr hg]
    simp only [World.shape?, hg] at hx
    rw [hs]; exact hx
  · simp only [World.shape?, setRow_other w g b cs e]
    exact hx

/-- A write into a block of the call's own. -/
theorem HR.write (hh : HR E.P E.base w0 φ h w) {b o : Nat} {k : Blk} (hk : hget h b = some k) (hb : E.base ≤ b) {vs us : List Value} (hl : us.length = vs.length) (ho : o + vs.length ≤ k.cs.length) (hpos : 0 < vs.length)
    (hr : ∀ (j : Nat) (x y : Value), vs[j]? = some x → us[j]? = some y → VR E.P E.base φ h.length w x y) :
    ∃ cur, w.heap[(φ b).1]? = some (.cells cur k.ty (0, 0)) ∧ (φ b).2 + o + us.length ≤ cur.size ∧
      Ext φ h w φ (h.set b (some ⟨setAt k.cs o vs, k.ty⟩)) (w.setRow (φ b).1 (cur.toList.take ((φ b).2 + o) ++ us ++ cur.toList.drop ((φ b).2 + o + us.length)).toArray) ∧
      HR E.P E.base w0 φ (h.set b (some ⟨setAt k.cs o vs, k.ty⟩)) (w.setRow (φ b).1 (cur.toList.take ((φ b).2 + o) ++ us ++ cur.toList.drop ((φ b).2 + o + us.length)).toArray) := by
  obtain ⟨cur, fr, h1, h2, h3⟩ := hh.blk b k hk
  obtain ⟨rfl, hbase⟩ := h3 hb
  have hlt := hget_lt hk
  have hfit : (φ b).2 + o + us.length ≤ cur.size := by
    have hj : o + vs.length - 1 < k.cs.length := by omega
    obtain ⟨u, hu, _⟩ := h2 (o + vs.length - 1) _ (List.getElem?_eq_getElem hj)
    have := (Array.getElem?_eq_some_iff.1 hu).1
    omega
  generalize hnc : (cur.toList.take ((φ b).2 + o) ++ us ++ cur.toList.drop ((φ b).2 + o + us.length)).toArray = nc
  have hsz : nc.size = cur.size := by
    rw [← hnc]
    simp
    omega
  have hget : ∀ j, nc[j]? = if (φ b).2 + o ≤ j ∧ j < (φ b).2 + o + us.length then us[j - ((φ b).2 + o)]? else cur[j]? := by
    intro j
    have := setAt_get (cs := cur.toList) (vs := us) (o := (φ b).2 + o) (by simpa using hfit) j
    rw [← hnc]
    simp only [setAt] at this
    simpa using this
  have hshape := setRow_shape w (φ b).1 cur nc k.ty (0, 0) h1 hsz
  have hbl : ∀ i l, Am.hget h i = some l → i ≠ b → (φ i).1 ≠ (φ b).1 := fun i l hi hne e => hne (hh.inj i b l k hi hk e)
  refine ⟨cur, h1, hfit, ?_⟩
  rw [hnc]
  refine ⟨⟨by simp, fun _ _ => rfl, fun i l hi _ => ?_, fun x _ hx => ?_, by simp, hshape⟩, ⟨?_, ?_, ?_, ?_, by simpa using hh.len, by simpa using hh.bw⟩⟩
  · by_cases e : b = i
    · subst e; exact ⟨b, k, hk, rfl⟩
    · rw [hget_set_ne e] at hi; exact ⟨i, l, hi, rfl⟩
  · exact setRow_other w _ x nc (fun e => hx b k hk e.symm)
  · exact hh.below.trans ⟨rfl, rfl, rfl, by simp, fun x hx => setRow_other w _ x nc (by omega)⟩
  · intro i l hi
    by_cases e : b = i
    · subst e
      rw [hget_set_self hlt] at hi
      injection hi with hi
      subst hi
      refine ⟨nc, (0, 0), setRow_heap w _ cur nc k.ty (0, 0) h1, fun j v hj => ?_, h3⟩
      simp only at hj
      rw [setAt_get ho] at hj
      split at hj
      · rename_i hin
        have hlt2 : j - o < us.length := by omega
        refine ⟨us[j - o], ?_, fun _ => (hr (j - o) v us[j - o] hj (List.getElem?_eq_getElem hlt2)).mono (fun _ _ => rfl) (by simp) hshape⟩
        rw [hget, if_pos ⟨by omega, by omega⟩, show (φ b).2 + j - ((φ b).2 + o) = j - o from by omega]
        exact List.getElem?_eq_getElem hlt2
      · rename_i hout
        obtain ⟨u, hu, hv⟩ := h2 j v hj
        exact ⟨u, by rw [hget, if_neg (by omega)]; exact hu, hv.mono (fun _ _ => rfl) (by simp) hshape⟩
    · rw [hget_set_ne e] at hi
      obtain ⟨cs, fr, g1, g2, g3⟩ := hh.blk i l hi
      refine ⟨cs, fr, by rw [setRow_other w _ _ nc (hbl i l hi (Ne.symm e))]; exact g1, fun j v hj => ?_, g3⟩
      obtain ⟨u, hu, hv⟩ := g2 j v hj
      exact ⟨u, hu, hv.mono (fun _ _ => rfl) (by simp) hshape⟩
  · intro i j l m hi hj e
    have live : ∀ {x y}, Am.hget (h.set b (some ⟨setAt k.cs o vs, k.ty⟩)) x = some y → ∃ z, Am.hget h x = some z := by
      intro x y hx
      by_cases e : b = x
      · subst e; exact ⟨k, hk⟩
      · rw [hget_set_ne e] at hx; exact ⟨y, hx⟩
    obtain ⟨l', hl'⟩ := live hi
    obtain ⟨m', hm'⟩ := live hj
    exact hh.inj i j l' m' hl' hm' e
  · exact hh.lo

theorem wr_some {base : Nat} {h h' : AH} {b o : Nat} {vs : List Value} (hx : wr base h b o vs = some h') : base ≤ b ∧ ∃ k, hget h b = some k ∧ o + vs.length ≤ k.cs.length ∧ h' = h.set b (some ⟨setAt k.cs o vs, k.ty⟩) := by
  unfold wr at hx
  split at hx
  · rename_i hb
    cases hk : hget h b with
    | none => rw [hk] at hx; cases hx
    | some k =>
      rw [hk] at hx
      simp only [Option.bind_some] at hx
      split at hx
      · rename_i ho
        injection hx with hx
        exact ⟨hb, k, rfl, ho, hx.symm⟩
      · cases hx
  · cases hx

theorem undef_rel {P : Program} {base : Nat} {φ : Nat → Nat × Nat} {n : Nat} {w : World} : VR P base φ n w undef undef := .tup _ _ rfl fun i x y hx _ => by simp [undef] at hx

theorem op_store (hE : EnvOk E) (t : TypeId) (x y : Operand) (hx : exOp E rec (.store t x y) s h c = some r) (hs : SR E.P E.base φ h.length w s a) (hh : HR E.P E.base w0 φ h w) (hn : Cont E w0 φ h w dst a next c r) :
    (⟨dst, .store t x y, ty, pos, after, guard⟩ : Oper).wp E.P a w next Q := by
  simp only [exOp] at hx
  split at hx
  · rename_i ad v h1 h2
    split at hx
    · rename_i i hi
      cases hb : (Nat.beq (cells v).length i.ks.length && (cells v).all leaf && Nat.blt 0 i.ks.length) with
      | false => rw [hb] at hx; cases hx
      | true =>
        rw [hb] at hx
        simp only [cond_true] at hx
        simp only [Bool.and_eq_true, Nat.blt_eq] at hb
        obtain ⟨⟨hb1, hb2⟩, hb3⟩ := hb
        have hlen := Nat.eq_of_beq_eq_true hb1
        cases hw : wr E.base h ad.block ad.off (cells v) with
        | none => rw [hw] at hx; cases hx
        | some h' =>
          rw [hw] at hx
          simp only [Option.bind_some] at hx
          obtain ⟨hbase, k, hk, ho, rfl⟩ := wr_some hw
          obtain ⟨hsp, hlt, e⟩ := (ev_rel hs h1).ptr_inv
          obtain ⟨hl, hr⟩ := (ev_rel hs h2).cells_rel
          obtain ⟨cur, g1, g2, g3, g4⟩ := hh.write hk hbase (vs := cells v) (us := (a.eval y).cells.toList) (by simp [hl]) ho (by omega) (fun j p q hp hq => hr j p q hp (by simpa using hq))
          have h1c : ∀ u ∈ (a.eval y).cells.toList, u.oneCell' = true := by
            intro u hu
            obtain ⟨j, hj, rfl⟩ := List.mem_iff_getElem.1 hu
            have hj' : j < (cells v).length := by rw [hl]; simpa using hj
            refine (hr j _ _ (List.getElem?_eq_getElem hj') ?_).oneCell (List.all_eq_true.1 hb2 _ (List.getElem_mem hj'))
            simp at hj ⊢
          have hst := run_storeCells_at E.P (φ ad.block).1 ((φ ad.block).2 + ad.off) k.ty (a.eval y).cells.toList 0 cur w g1 (by simpa using g2) h1c
          unfold Oper.wp
          have hrun : (execOp a.eval (⟨dst, .store t x y, ty, pos, after, guard⟩ : Oper)).run E.P w = .ok .skip (w.setRow (φ ad.block).1 (cur.toList.take ((φ ad.block).2 + ad.off) ++ (a.eval y).cells.toList ++ cur.toList.drop ((φ ad.block).2 + ad.off + (a.eval y).cells.toList.length)).toArray) := by
            have hsz := (hE.ti t i hi).size w
            simp only [execOp, Instr.storeAt, e, Instr.sureAddr, storeVar, Sem.run_bind, Sem.run_pure, Result.andThen_ok, hsz]
            rw [if_neg (by rw [← hl, hlen]; simp)]
            simp only [Nat.add_zero] at hst
            rw [hst]
            rfl
          rw [hrun]
          exact hn _ _ φ _ _ hx g3 g4 undef_rel
    · cases hx
  · cases hx

theorem op_field (hE : EnvOk E) (t : TypeId) (x : Operand) (f : Nat) (hx : exOp E rec (.field t x f) s h c = some r) (hs : SR E.P E.base φ h.length w s a) (hh : HR E.P E.base w0 φ h w) (hn : Cont E w0 φ h w dst a next c r) :
    (⟨dst, .field t x f, ty, pos, after, guard⟩ : Oper).wp E.P a w next Q := by
  simp only [exOp] at hx
  split at hx
  · rename_i cs i h1 h2
    obtain ⟨ys, e, hl, hr⟩ := (ev_rel hs h1).agg_inv
    split at hx
    · rename_i off ft hf
      obtain ⟨fs, fd, hu, hfd, ho, hft⟩ := (hE.ti t i h2).field hf
      split at hx
      · rename_i j hj
        have hag := (hE.ti ft j hj).agg w
        have hsz := (hE.ti ft j hj).size w
        cases hb : j.agg with
        | true =>
          simp only [hb] at hx
          cases hc : Nat.ble (off + j.ks.length) cs.toList.length with
          | false => rw [hc] at hx; cases hx
          | true =>
            rw [hc] at hx
            simp only [cond_true] at hx
            have hle := Nat.le_of_ble_eq_true hc
            refine done_pure (o := ⟨dst, .field t x f, ty, pos, after, guard⟩) hn hh hx (.agg _ (ys.extract off (off + j.ks.length)) ?_ ?_) ?_
            · have : cs.toList.length = ys.size := by simpa using hl
              simp; omega
            · intro n p q hp hq
              simp only [List.getElem?_toArray, List.getElem?_take, List.getElem?_drop] at hp
              rw [Array.getElem?_extract] at hq
              split at hp
              · split at hq
                · exact hr (off + n) p q (by simpa using hp) hq
                · cases hq
              · cases hp
            · simp only [execOp, e, Instr.field, Sem.run_bind, TFact.under hu, Result.andThen_ok]
              simp [hfd, asAgg, part, hft, hag, hb, hsz, ho]
        | false =>
          simp only [hb] at hx
          split at hx
          · rename_i v hv
            have hlt : off < ys.size := by
              have := (List.getElem?_eq_some_iff.1 hv).1
              have h2 : cs.toList.length = ys.size := by simpa using hl
              omega
            refine done_pure (o := ⟨dst, .field t x f, ty, pos, after, guard⟩) hn hh hx (hr off v ys[off] (by simpa using hv) (Array.getElem?_eq_getElem hlt)) ?_
            simp only [execOp, e, Instr.field, Sem.run_bind, TFact.under hu, Result.andThen_ok]
            simp [hfd, asAgg, part, hft, hag, hb, ho, Array.getElem?_eq_getElem hlt]
          · cases hx
      · cases hx
    · cases hx
  · cases hx

theorem op_indexAddr (hE : EnvOk E) (t : TypeId) (x y : Operand) (hx : exOp E rec (.indexAddr t x y) s h c = some r) (hs : SR E.P E.base φ h.length w s a) (hh : HR E.P E.base w0 φ h w) (hn : Cont E w0 φ h w dst a next c r) :
    (⟨dst, .indexAddr t x y, ty, pos, after, guard⟩ : Oper).wp E.P a w next Q := by
  simp only [exOp] at hx
  split at hx
  · rename_i ad n c0 k i ti h1 h2 h3
    split at hx
    · rename_i j hj
      cases hb : isSl ti with
      | false => rw [hb] at hx; cases hx
      | true =>
        rw [hb] at hx
        simp only [Bool.not_true, cond_false] at hx
        split at hx
        · rename_i hi
          cases ad with
          | none => cases hx
          | some ad =>
            simp only [Option.bind_some] at hx
            obtain ⟨a', c', e, hm, hor⟩ := (ev_rel hs h1).slice_inv
            have ei := (ev_rel hs h2).int_inv
            have hu := (hE.ti t ti h3).slice hb
            have hsz := (hE.ti ti.elem j hj).size w
            rcases hor with ⟨h0, _⟩ | ⟨z, hz, hsp, hlt, ha', _⟩
            · omega
            · injection hz with hz
              subst hz
              refine done_pure (o := ⟨dst, .indexAddr t x y, ty, pos, after, guard⟩) hn hh hx (.ptr ad.block (ad.off + i.toNat * j.ks.length) hlt) ?_
              have hadd : (⟨(φ ad.block).1, (φ ad.block).2 + ad.off, none⟩ : Addr).add (i.toNat * j.ks.length) = ⟨(φ ad.block).1, (φ ad.block).2 + (ad.off + i.toNat * j.ks.length), none⟩ := by
                unfold Addr.add
                split
                · rename_i h0; rw [h0]; rfl
                · simp [Nat.add_assoc]
              simp only [execOp, e, ei, ha', Instr.indexAt, Sem.run_bind, TFact.under hu, Result.andThen_ok, asIntOf, Sem.run_pure]
              simp [hi, hsz, hadd]
        · cases hx
    · cases hx
  · cases hx

theorem op_index (hE : EnvOk E) (t : TypeId) (x y : Operand) (hx : exOp E rec (.index t x y) s h c = some r) (hs : SR E.P E.base φ h.length w s a) (hh : HR E.P E.base w0 φ h w) (hn : Cont E w0 φ h w dst a next c r) :
    (⟨dst, .index t x y, ty, pos, after, guard⟩ : Oper).wp E.P a w next Q := by
  simp only [exOp] at hx
  split at hx
  · rename_i v k i ti h1 h2 h3
    cases hb : isK .str ti with
    | false => rw [hb] at hx; cases hx
    | true =>
      rw [hb] at hx
      simp only [Bool.not_true, cond_false] at hx
      split at hx
      · rename_i hi
        have e := (ev_rel hs h1).str_inv
        have ei := (ev_rel hs h2).int_inv
        have hu := (hE.ti t ti h3).str hb
        have hlt : i.toNat < v.size := by omega
        have hd : v.data.toList.getD i.toNat 0 = v[i.toNat] := by
          have : i.toNat < v.data.toList.length := by simpa using hlt
          rw [List.getD_eq_getElem?_getD, List.getElem?_eq_getElem this]
          rfl
        refine done_pure (o := ⟨dst, .index t x y, ty, pos, after, guard⟩) hn hh hx (.int _ _) ?_
        rw [hd]
        simp only [execOp, e, ei, Instr.index, Sem.run_bind, TFact.under hu, Result.andThen_ok, asIntOf, Sem.run_pure]
        rw [if_pos hi.1, getElem?_pos v i.toNat hlt]
        rfl
      · cases hx
  · cases hx
end
end Go.Proofs.Ytgigdaijailfkaa.Am
