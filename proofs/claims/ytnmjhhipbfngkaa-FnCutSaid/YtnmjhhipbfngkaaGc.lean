/- Code read out of bytes: plain functions and their laws.
Conditions: none. -/
import Derived.Test.YtnmjhhipbfngkaaGt
import Derived.Test.YtnmjhhipbfngkaaPc
set_option linter.unusedSimpArgs false
set_option linter.unusedVariables false
namespace Go.Proofs.Ytnmjhhipbfngkaa.Am
open Go Go.RowKit

/-- What stands behind doesn't matter. -/
theorem gn_pre {bs r : List Int} {a : Int} : ∀ {f k : Nat} {u : Int} {p : Int × Int}, gnL bs a f k u = some p → gnL (bs ++ r) a f k u = some p
  | 0, _, _, _, h => by cases h
  | f + 1, k, u, p, h => by
    rw [gnL] at h ⊢
    by_cases c : 0 ≤ a ∧ a + (k : Int) < ((bs.length : Nat) : Int)
    · have e : (bs ++ r).getD (a + (k : Int)).toNat 0 = bs.getD (a + (k : Int)).toNat 0 := by
        simp only [List.getD]
        rw [List.getElem?_append_left (by omega)]
      rw [if_pos c] at h
      rw [if_pos (by simp; omega), e]
      split at h
      · rename_i c2
        rw [if_pos c2]
        exact gn_pre h
      · rename_i c2
        rw [if_neg c2]
        exact h
    · rw [if_neg c] at h
      cases h
theorem gn_join {zs r : List Int} {a : Nat} {v : Int} (ha : a ≤ zs.length) (hd : zs.drop a = encN v ++ r) (hv : inB v (-1000000) 1000000 = true) : gnL zs (a : Int) 4 0 0 = some (v, ((a + (encN v).length : Nat) : Int)) := by
  rw [gn_end zs (by omega) (by omega), Int.toNat_natCast, hd, gn_pre (gn_enc v), cl_self hv]
  simp only [Option.map_some]
  congr 2
theorem gn_split {zs : List Int} (hz : ∀ x ∈ zs, 0 ≤ x ∧ x ≤ 255) {a : Nat} (ha : a ≤ zs.length) {n e : Int} (h : gnL zs (a : Int) 4 0 0 = some (n, e)) : ∃ e' : Nat, e = (e' : Int) ∧ a ≤ e' ∧ e' ≤ zs.length ∧ zs.drop a = encN n ++ zs.drop e' := by
  rw [gn_end zs (by omega) (by omega), Int.toNat_natCast] at h
  cases hg : gnL (zs.drop a) 0 4 0 0 with
  | none => rw [hg] at h; cases h
  | some p =>
    obtain ⟨n', e0⟩ := p
    rw [hg] at h
    simp only [Option.map_some, Option.some.injEq, Prod.mk.injEq] at h
    obtain ⟨rfl, rfl⟩ := h
    obtain ⟨h0, h1, h2⟩ := gn_dec (fun x hx => hz x (List.mem_of_mem_drop hx)) hg
    simp only [List.length_drop] at h1
    refine ⟨a + e0.toNat, by omega, by omega, by omega, ?_⟩
    rw [h2, ← List.drop_drop, List.take_append_drop]

/-! ### Bytes as texts -/
theorem bstr_go (ns : List Int) : ∀ r : ByteArray, (ns.foldl (fun r n => r.push (UInt8.ofNat n.toNat)) r).data.toList = r.data.toList ++ ns.map fun n => UInt8.ofNat n.toNat := by
  induction ns with
  | nil => intro r; simp
  | cons n ns ih =>
    intro r
    rw [List.foldl_cons, ih]
    simp [ByteArray.push]
theorem bstr_data (ns : List Int) : (bstr ns).data.toList = ns.map fun n => UInt8.ofNat n.toNat := by
  unfold bstr
  rw [bstr_go]
  rfl
theorem bstr_size (ns : List Int) : (bstr ns).size = ns.length := by
  have := congrArg List.length (bstr_data ns)
  simpa using this
theorem sb_bstr {ns : List Int} (h : ∀ x ∈ ns, 0 ≤ x ∧ x ≤ 255) : sb (bstr ns) = ns := by
  unfold sb
  rw [bstr_data, List.map_map]
  conv => rhs; rw [← List.map_id ns]
  apply List.map_congr_left
  intro x hx
  have := h x hx
  simp only [Function.comp_apply, id_eq, UInt8.toNat_ofNat']
  omega
theorem bstr_sb (s : ByteArray) : bstr (sb s) = s := by
  apply ByteArray.ext
  apply Array.toList_inj.1
  rw [bstr_data]
  unfold sb
  rw [List.map_map]
  conv => rhs; rw [← List.map_id s.data.toList]
  apply List.map_congr_left
  intro x _
  simp
theorem toList_go (s : ByteArray) : ∀ (d i : Nat) (r : List UInt8), i + d = s.size → ByteArray.toList.loop s i r = r.reverse ++ s.data.toList.drop i := by
  intro d
  induction d with
  | zero =>
    intro i r h
    rw [ByteArray.toList.loop, if_neg (by omega), List.drop_eq_nil_of_le (by simp; omega)]
    simp
  | succ d ih =>
    intro i r h
    have hlt : i < s.size := by omega
    rw [ByteArray.toList.loop, if_pos hlt, ih (i + 1) _ (by omega)]
    have hl : i < s.data.toList.length := by simpa using hlt
    rw [List.drop_eq_getElem_cons hl]
    simp [ByteArray.get!, hlt]
theorem toList_data (s : ByteArray) : s.toList = s.data.toList := by
  unfold ByteArray.toList
  rw [toList_go s s.size 0 [] (by omega)]
  simp
theorem bstr_inj {xs ys : List Int} (hx : ∀ x ∈ xs, 0 ≤ x ∧ x ≤ 255) (hy : ∀ x ∈ ys, 0 ≤ x ∧ x ≤ 255) : ((bstr xs).toList == (bstr ys).toList) = decide (xs = ys) := by
  by_cases c : xs = ys
  · subst c; simp
  · rw [decide_eq_false c]
    rw [toList_data, toList_data]
    by_cases d : (bstr xs).data.toList = (bstr ys).data.toList
    · exfalso
      apply c
      have e : bstr xs = bstr ys := ByteArray.ext (Array.toList_inj.1 d)
      rw [← sb_bstr hx, ← sb_bstr hy, e]
    · exact beq_eq_false_iff_ne.2 d

/-! ### Six numbers, and a text -/
def sixL (zs : List Int) : Nat → Int → List Int → Option (List Int × Int)
  | 0, a, acc => some (acc, a)
  | d + 1, a, acc => match gnL zs a 4 0 0 with
    | some (n, e) => sixL zs d e (acc ++ [n])
    | none => none
theorem sixL_join {zs : List Int} : ∀ {vs r acc : List Int} {a : Nat}, a ≤ zs.length → zs.drop a = encs vs ++ r → (∀ v ∈ vs, inB v (-1000000) 1000000 = true) → sixL zs vs.length (a : Int) acc = some (acc ++ vs, ((a + (encs vs).length : Nat) : Int))
  | [], r, acc, a, ha, hd, hv => by simp [sixL, encs]
  | v :: vs, r, acc, a, ha, hd, hv => by
    simp only [encs, List.append_assoc] at hd
    have hlen := congrArg List.length hd
    simp only [List.length_drop, List.length_append] at hlen
    rw [List.length_cons, sixL, gn_join ha hd (hv v (List.mem_cons_self ..))]
    simp only
    have hd2 : zs.drop (a + (encN v).length) = encs vs ++ r := by
      rw [← List.drop_drop, hd, List.drop_left]
    rw [sixL_join (by omega) hd2 fun x hx => hv x (List.mem_cons_of_mem _ hx)]
    simp [encs]
    omega
theorem sixL_split {zs : List Int} (hz : ∀ x ∈ zs, 0 ≤ x ∧ x ≤ 255) : ∀ {d : Nat} {a : Nat} {acc vs' : List Int} {e : Int}, a ≤ zs.length → sixL zs d (a : Int) acc = some (vs', e) → ∃ (vs : List Int) (e' : Nat), vs' = acc ++ vs ∧ vs.length = d ∧ e = (e' : Int) ∧ a ≤ e' ∧ e' ≤ zs.length ∧ zs.drop a = encs vs ++ zs.drop e'
  | 0, a, acc, vs', e, ha, h => by
    simp only [sixL, Option.some.injEq, Prod.mk.injEq] at h
    obtain ⟨rfl, rfl⟩ := h
    exact ⟨[], a, by simp, rfl, rfl, Nat.le_refl _, ha, by simp [encs]⟩
  | d + 1, a, acc, vs', e, ha, h => by
    rw [sixL] at h
    cases hg : gnL zs (a : Int) 4 0 0 with
    | none => rw [hg] at h; cases h
    | some p =>
      obtain ⟨n, e1⟩ := p
      rw [hg] at h
      simp only at h
      obtain ⟨e', rfl, h1, h2, h3⟩ := gn_split hz ha hg
      obtain ⟨vs, e2, g1, g2, g3, g4, g5, g6⟩ := sixL_split hz h2 h
      exact ⟨n :: vs, e2, by rw [g1]; simp, by simp [g2], g3, by omega, g5, by rw [h3, g6]; simp [encs]⟩

def mkIn (zs vs : List Int) (e : Int) : In := ⟨vs.getD 0 0, vs.getD 1 0, vs.getD 2 0, vs.getD 3 0, vs.getD 4 0, bstr ((zs.drop e.toNat).take (vs.getD 5 0).toNat)⟩
/-- The program's way: so many from a place on. -/
def pI (zs : List Int) : Nat → Int → List In → Option (Int × List In)
  | 0, a, out => some (a, out)
  | d + 1, a, out => (sixL zs 6 a []).bind fun p => if (inB (p.1.getD 5 0) 0 ((zs.length : Int) - p.2) && decide ((out.length : Int) < 200)) = true then pI zs d (p.2 + p.1.getD 5 0) (out ++ [mkIn zs p.1 p.2]) else none
/-- The reference's way. -/
def pS (zs : List Int) : Nat → Int → List In → Option (Int × List In)
  | 0, a, out => some (a, out)
  | d + 1, a, out => (sixL zs 6 a []).bind fun p => if (inB (p.1.getD 5 0) 0 12 && !decide (p.1.getD 5 0 > (zs.length : Int) - p.2)) = true then pS zs d (p.2 + p.1.getD 5 0) (out ++ [mkIn zs p.1 p.2]) else none

/-- All that an instruction's six numbers may be. -/
def InRng (x : In) : Prop := (∀ v ∈ sixOf x, inB v (-1000000) 1000000 = true) ∧ x.s.size ≤ 12
theorem step_join {zs : List Int} {a : Nat} {x : In} {r : List In} (ha : a ≤ zs.length) (hd : zs.drop a = insBs (x :: r)) (hx : InRng x) :
    ∃ e : Nat, sixL zs 6 (a : Int) [] = some (sixOf x, (e : Int)) ∧ e + x.s.size ≤ zs.length ∧ mkIn zs (sixOf x) (e : Int) = x ∧ zs.drop (e + x.s.size) = insBs r := by
  simp only [insBs, insB, List.append_assoc] at hd
  have hlen := congrArg List.length hd
  simp only [List.length_drop, List.length_append, sb_len] at hlen
  have h6 := sixL_join (acc := []) ha hd hx.1
  have hd2 : zs.drop (a + (encs (sixOf x)).length) = sb x.s ++ insBs r := by rw [← List.drop_drop, hd, List.drop_left]
  refine ⟨a + (encs (sixOf x)).length, h6, by omega, ?_, ?_⟩
  · have e5 : (sixOf x).getD 5 0 = (x.s.size : Int) := rfl
    unfold mkIn
    rw [e5, Int.toNat_natCast, Int.toNat_natCast, hd2, List.take_left' (sb_len x.s), bstr_sb]
    rfl
  · rw [← List.drop_drop, hd2, List.drop_left' (sb_len x.s)]
theorem pI_join {zs : List Int} : ∀ {r out : List In} {a : Nat}, a ≤ zs.length → zs.drop a = insBs r → (∀ x ∈ r, InRng x) → out.length + r.length ≤ 200 → pI zs r.length (a : Int) out = some ((zs.length : Int), out ++ r)
  | [], out, a, ha, hd, hr, hl => by
    have : a = zs.length := by have := congrArg List.length hd; simp [insBs] at this; omega
    subst this
    simp [pI]
  | x :: r, out, a, ha, hd, hr, hl => by
    obtain ⟨e, h1, h2, h3, h4⟩ := step_join ha hd (hr x (List.mem_cons_self ..))
    simp only [List.length_cons] at hl
    rw [List.length_cons, pI, h1]
    simp only [Option.bind_some]
    have e5 : (sixOf x).getD 5 0 = (x.s.size : Int) := rfl
    rw [e5, if_pos (by simp [inB]; omega), h3, show (e : Int) + (x.s.size : Int) = ((e + x.s.size : Nat) : Int) from by omega, pI_join h2 h4 (fun y hy => hr y (List.mem_cons_of_mem _ hy)) (by simp; omega)]
    simp
theorem pS_join {zs : List Int} : ∀ {r out : List In} {a : Nat}, a ≤ zs.length → zs.drop a = insBs r → (∀ x ∈ r, InRng x) → pS zs r.length (a : Int) out = some ((zs.length : Int), out ++ r)
  | [], out, a, ha, hd, hr => by
    have : a = zs.length := by have := congrArg List.length hd; simp [insBs] at this; omega
    subst this
    simp [pS]
  | x :: r, out, a, ha, hd, hr => by
    have hx := hr x (List.mem_cons_self ..)
    obtain ⟨e, h1, h2, h3, h4⟩ := step_join ha hd hx
    have hx2 := hx.2
    rw [List.length_cons, pS, h1]
    simp only [Option.bind_some]
    have e5 : (sixOf x).getD 5 0 = (x.s.size : Int) := rfl
    rw [e5, if_pos (by simp [inB]; omega), h3, show (e : Int) + (x.s.size : Int) = ((e + x.s.size : Nat) : Int) from by omega, pS_join h2 h4 (fun y hy => hr y (List.mem_cons_of_mem _ hy))]
    simp
theorem pS_split {zs : List Int} (hz : ∀ x ∈ zs, 0 ≤ x ∧ x ≤ 255) : ∀ {d : Nat} {a : Nat} {out out' : List In} {e : Int}, a ≤ zs.length → pS zs d (a : Int) out = some (e, out') → ∃ (r : List In) (e' : Nat), out' = out ++ r ∧ r.length = d ∧ e = (e' : Int) ∧ e' ≤ zs.length ∧ zs.drop a = insBs r ++ zs.drop e'
  | 0, a, out, out', e, ha, h => by
    simp only [pS, Option.some.injEq, Prod.mk.injEq] at h
    obtain ⟨rfl, rfl⟩ := h
    exact ⟨[], a, by simp, rfl, rfl, ha, by simp [insBs]⟩
  | d + 1, a, out, out', e, ha, h => by
    rw [pS] at h
    cases h6 : sixL zs 6 (a : Int) [] with
    | none => rw [h6] at h; cases h
    | some p =>
      obtain ⟨vs', e1⟩ := p
      rw [h6] at h
      simp only [Option.bind_some] at h
      obtain ⟨vs, e2, g1, g2, rfl, g4, g5, g6⟩ := sixL_split hz ha h6
      simp only [List.nil_append] at g1
      subst g1
      split at h
      · rename_i c
        simp only [Bool.and_eq_true, inB, decide_eq_true_eq, Bool.not_eq_true', decide_eq_false_iff_not] at c
        obtain ⟨⟨c0, c12⟩, c3⟩ := c
        match vs', g2, g6, h, c0, c12, c3 with
        | [v0, v1, v2, v3, v4, v5], g2, g6, h, c0, c12, c3 =>
          have e5 : [v0, v1, v2, v3, v4, v5].getD 5 0 = v5 := rfl
          rw [e5] at c0 c12 c3 h
          obtain ⟨k5, rfl⟩ : ∃ k5 : Nat, v5 = (k5 : Int) := ⟨v5.toNat, by omega⟩
          have hle : e2 + k5 ≤ zs.length := by omega
          rw [show (e2 : Int) + (k5 : Int) = ((e2 + k5 : Nat) : Int) from by omega] at h
          obtain ⟨r, e', q1, q2, q3, q4, q5⟩ := pS_split hz hle h
          have hs : (bstr ((zs.drop e2).take k5)).size = k5 := by rw [bstr_size]; simp; omega
          have hb : sb (bstr ((zs.drop e2).take k5)) = (zs.drop e2).take k5 := sb_bstr fun x hx => hz x (List.mem_of_mem_drop (List.mem_of_mem_take hx))
          have hm : mkIn zs [v0, v1, v2, v3, v4, (k5 : Int)] (e2 : Int) = ⟨v0, v1, v2, v3, v4, bstr ((zs.drop e2).take k5)⟩ := by
            unfold mkIn
            rw [e5, Int.toNat_natCast, Int.toNat_natCast]
            rfl
          refine ⟨mkIn zs [v0, v1, v2, v3, v4, (k5 : Int)] (e2 : Int) :: r, e', by rw [q1]; simp, by simp [q2], q3, q4, ?_⟩
          rw [g6, hm]
          simp only [insBs, insB, sixOf, hs, hb, List.append_assoc]
          rw [← q5, ← List.drop_drop, List.take_append_drop]
      · cases h

theorem specB_rng {x : In} {n : Int} (hn : n ≤ 200) (h : specB x n = true) : InRng x := by
  have hs := specB_size h
  refine ⟨?_, hs⟩
  unfold specB at h
  simp only [Bool.and_eq_true] at h
  obtain ⟨_, h1, h2, h3, h4, _, h6⟩ := h
  have reg : ∀ {s : ByteArray} {c r : Int}, regB s c r = true → inB r (-1000000) 1000000 = true := by
    intro s c r hr
    unfold regB at hr
    split at hr
    · have := eq_of_beq hr; subst this; decide
    · simp only [inB, Bool.and_eq_true, decide_eq_true_eq] at hr ⊢; omega
  have wide : ∀ {r a b : Int}, inB r a b = true → -1000000 ≤ a → b ≤ 1000000 → inB r (-1000000) 1000000 = true := by
    intro r a b hr ha hb
    simp only [inB, Bool.and_eq_true, decide_eq_true_eq] at hr ⊢
    omega
  have hb : inB x.b (-1000000) 1000000 = true := by
    split at h4
    · exact wide h4 (by decide) (by decide)
    · exact reg h4
  have hnn : inB x.n (-1000000) 1000000 = true := by
    unfold numB at h6
    split at h6
    · exact h6
    · split at h6
      · split at h6
        · rename_i c; exact wide c (by decide) (by decide)
        · cases h6
      · split at h6
        · exact wide h6 (by decide) (by decide)
        · generalize (if (x.op == (10 : Int)) = true then (x.op == (10 : Int)) else (if (x.op == (11 : Int)) = true then (x.op == (11 : Int)) else (if (x.op == (12 : Int)) = true then (x.op == (12 : Int)) else (x.op == (16 : Int))))) = cc at h6
          cases cc with
          | true =>
            rw [if_pos rfl] at h6
            split at h6
            · rename_i c
              simp only [decide_eq_true_eq] at c h6
              simp only [inB, Bool.and_eq_true, decide_eq_true_eq]
              omega
            · cases h6
          | false =>
            rw [if_neg (by decide)] at h6
            have := eq_of_beq h6
            rw [this]
            decide
  intro v hv
  simp only [sixOf, List.mem_cons, List.not_mem_nil, or_false] at hv
  rcases hv with rfl | rfl | rfl | rfl | rfl | rfl
  · exact wide h1 (by decide) (by decide)
  · exact reg h2
  · exact hb
  · exact reg h3
  · exact hnn
  · simp only [inB, Bool.and_eq_true, decide_eq_true_eq]; omega
theorem codeOk_rng {l : List In} (h : codeOk l = true) : ∀ x ∈ l, InRng x := by
  have h2 := h
  unfold codeOk at h2
  simp only [Bool.and_eq_true, inB, decide_eq_true_eq] at h2
  obtain ⟨⟨_, h200⟩, _, ha⟩ := h2
  exact fun x hx => specB_rng (by omega) (allIns_mem ha x hx)
end Go.Proofs.Ytnmjhhipbfngkaa.Am
