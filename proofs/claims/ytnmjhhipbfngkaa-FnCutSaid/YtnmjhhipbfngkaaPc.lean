/- PutCode: the reference's bytes and the program's.
Conditions: none. -/
import Derived.Test.YtnmjhhipbfngkaaCo3
import Derived.Test.YtnmjhhipbfngkaaPN0
import Derived.Test.YtnmjhhipbfngkaaEq1
import Derived.Test.YtnmjhhipbfngkaaEq2
import Derived.Test.YtnmjhhipbfngkaaEq3
import Derived.Test.YtnmjhhipbfngkaaEq4
set_option linter.unusedSimpArgs false
set_option linter.unusedVariables false
namespace Go.Proofs.Ytnmjhhipbfngkaa.Am
open Go Go.RowKit

/-- A text's bytes as numbers. -/
def sb (s : ByteArray) : List Int := s.data.toList.map fun b => (b.toNat : Int)
theorem sb_iv (s : ByteArray) : bytesV s = iv .u8 (sb s) := by simp [bytesV, iv, sb]
theorem sb_len (s : ByteArray) : (sb s).length = s.size := by simp [sb]
theorem encN_length (v : Int) : (encN v).length ≤ 4 := vi_length 3 _
def encs : List Int → List Int
  | [] => []
  | z :: r => encN z ++ encs r
theorem encs_app : ∀ l r : List Int, encs (l ++ r) = encs l ++ encs r
  | [], r => rfl
  | z :: l, r => by simp only [List.cons_append, encs, encs_app l r, List.append_assoc]
theorem encs_len : ∀ l : List Int, (encs l).length ≤ 4 * l.length
  | [] => by simp [encs]
  | z :: r => by
    have := encs_len r
    have := encN_length z
    simp only [encs, List.length_append, List.length_cons]
    omega
def sixOf (x : In) : List Int := [x.op, x.a, x.b, x.c, x.n, (x.s.size : Int)]
def insB (x : In) : List Int := encs (sixOf x) ++ sb x.s
def insBs : List In → List Int
  | [] => []
  | x :: r => insB x ++ insBs r
theorem insBs_app : ∀ l r : List In, insBs (l ++ r) = insBs l ++ insBs r
  | [], r => rfl
  | x :: l, r => by simp only [List.cons_append, insBs, insBs_app l r, List.append_assoc]
def codeB (l : List In) : List Int := encN (l.length : Int) ++ insBs l
/-- What PutCode comes to. -/
def pcB (l : List In) : List Int := if codeOk l = true then codeB l else []
theorem toList_loop (s : ByteArray) : ∀ (d i : Nat) (r : List UInt8), i + d = s.size → (ByteArray.toList.loop s i r).length = r.length + d
  | 0, i, r, h => by
    unfold ByteArray.toList.loop
    rw [if_neg (by omega)]
    simp
  | d + 1, i, r, h => by
    unfold ByteArray.toList.loop
    rw [if_pos (by omega), toList_loop s d (i + 1) _ (by omega)]
    simp only [List.length_cons]
    omega
theorem toList_len (s : ByteArray) : s.toList.length = s.size := by
  unfold ByteArray.toList
  rw [toList_loop s s.size 0 [] (by omega)]
  simp
/-- Short texts in code that is right. -/
theorem specB_size {x : In} {n : Int} (h : specB x n = true) : x.s.size ≤ 12 := by
  unfold specB at h
  simp only [Bool.and_eq_true] at h
  obtain ⟨_, _, _, _, _, h, _⟩ := h
  cases c : x.op == (2 : Int) with
  | true =>
    rw [c, if_pos rfl] at h
    unfold atomOk inB at h
    simp at h
    omega
  | false =>
    rw [c, if_neg (by decide)] at h
    unfold emp at h
    have := eq_of_beq h
    have h2 : x.s.toList.length = (⟨#[]⟩ : ByteArray).toList.length := by rw [this]
    rw [toList_len, toList_len] at h2
    have : (⟨#[]⟩ : ByteArray).size = 0 := rfl
    omega
theorem allIns_mem {n : Int} : ∀ {l : List In}, allIns n l = true → ∀ x ∈ l, specB x n = true
  | [], _, x, hx => by cases hx
  | y :: r, h, x, hx => by
    simp only [allIns, Bool.and_eq_true] at h
    rcases List.mem_cons.1 hx with rfl | hx
    · exact h.1
    · exact allIns_mem h.2 x hx
theorem codeOk_spec {l : List In} (h : codeOk l = true) : l.length ≤ 200 ∧ 1 ≤ l.length ∧ ∀ x ∈ l, x.s.size ≤ 12 := by
  unfold codeOk at h
  simp only [Bool.and_eq_true] at h
  obtain ⟨h1, _, h2⟩ := h
  unfold inB at h1
  simp at h1
  exact ⟨by omega, by omega, fun x hx => specB_size (allIns_mem h2 x hx)⟩
theorem insBs_len : ∀ {l : List In}, (∀ x ∈ l, x.s.size ≤ 12) → (insBs l).length ≤ 36 * l.length
  | [], _ => by simp [insBs]
  | x :: r, h => by
    have h1 := insBs_len (l := r) fun y hy => h y (List.mem_cons_of_mem _ hy)
    have h2 : (encs (sixOf x)).length ≤ 24 := encs_len (sixOf x)
    have h3 := h x (List.mem_cons_self ..)
    have h4 := sb_len x.s
    simp only [insBs, insB, List.length_append, List.length_cons]
    omega
theorem pcB_len (l : List In) : (pcB l).length ≤ 10000 := by
  unfold pcB
  split
  · rename_i h
    obtain ⟨h1, _, h2⟩ := codeOk_spec h
    have := insBs_len h2
    have := encN_length (l.length : Int)
    simp only [codeB, List.length_append]
    omega
  · simp

/-- A text's bytes put behind. -/
theorem appStr {base : Nat} {h : AH} {a : Option Addr} {xs : List Int} {s : ByteArray} (ho : Own base 5 h a (iv .u8 xs)) (hl : xs.length + s.size ≤ 1048576 * 2) (hb : base ≤ h.length) :
    ∃ a' h', Am.app base h 5 1 1 a xs.length (some (bytesV s)) s.size = some (.slice a' (xs ++ sb s).length (xs ++ sb s).length, h') ∧ Own base 5 h' a' (iv .u8 (xs ++ sb s)) ∧ KB (blk a) h h' ∧ (∀ b, blk a' b → blk a b ∨ h.length ≤ b) := by
  obtain ⟨a', h', e, o, k, d⟩ := ho.app (n := xs.length) (m := s.size) (sz := 1) (bytes := 1) (by simp) (by decide) (src := some (bytesV s)) rfl hb (by omega) (by omega) (by rw [sb_iv]; simp [sb_len])
  have e2 : xs.length + s.size = (xs ++ sb s).length := by rw [List.length_append, sb_len]
  rw [e2] at e
  refine ⟨a', h', e, ?_, k, fun b hb' => ?_⟩
  · rw [sb_iv] at o
    have : iv .u8 (xs ++ sb s) = iv .u8 xs ++ iv .u8 (sb s) := by simp [iv]
    rw [this]
    exact o
  · rcases d with ⟨_, e, _⟩ | d
    · subst e; exact .inl hb'
    · have := d b hb'; exact .inr (by omega)

/-! the reference -/
/-! the program -/
theorem nums_loop {base : Nat} {ob : Nat} {p : Addr} {a : Option Addr} {n : Nat} {m q : Int} {zs : List Int} (hz : zs.length = 6) : ∀ (d i : Nat) (h : AH) (ao : Option Addr) (acc : List Int), i + d = 6 → Own base 3 h (at0 ob) (iv .i64 zs) → base ≤ h.length → Own base 5 h ao (iv .u8 acc) → (∀ b, blk ao b → b ≠ ob) → acc.length + 4 * d ≤ 1048576 → ob < h.length →
    ∃ h' ao', loopL (B23_1 base) [some (.slice ao acc.length acc.length), some (.pointer (some p)), some (.slice a n n), some (.int .i64 m), some (.int .i64 q), some (.slice (at0 ob) 6 6), some (.int .i64 6), some (.int .i64 (i : Int))] h = some (4, [some (.slice ao' (acc ++ encs (zs.drop i)).length (acc ++ encs (zs.drop i)).length), some (.pointer (some p)), some (.slice a n n), some (.int .i64 m), some (.int .i64 q)], h') ∧
      Own base 5 h' ao' (iv .u8 (acc ++ encs (zs.drop i))) ∧ (∀ b, blk ao' b → blk ao b ∨ h.length ≤ b) ∧ KB (blk ao) h h' := by
  intro d
  induction d with
  | zero =>
    intro i h ao acc hi oz hb ow hao hl hob
    rw [List.drop_eq_nil_of_le (by omega), show encs [] = [] from rfl, List.append_nil]
    refine ⟨h, ao, ?_, ow, fun b hb => .inl hb, KB.refl _ _⟩
    refine loop_off (by decide) ?_
    rw [B23_1_eq]
    exact ifF (by simp; omega) rfl
  | succ d ihd =>
    intro i h ao acc hi oz hb ow hao hl hob
    have hlt : i < zs.length := by omega
    obtain ⟨a2, h2, e2, w2, k2, f2⟩ := addNum_run (base := base) (v := zs[i]) ow (by omega) hb
    have n2 := k2.1
    have l4 := encN_length zs[i]
    obtain ⟨h3, a3, y1, y2, y3, y4⟩ := ihd (i + 1) h2 a2 (acc ++ encN zs[i]) (by omega) (oz.keep k2 fun b hb hk => by rw [blk_at0] at hb; exact hao b hk hb) (by omega) w2 (fun b hb => by have := f2 b hb; omega) (by rw [List.length_append]; omega) (by omega)
    have ed : acc ++ encs (zs.drop i) = acc ++ encN zs[i] ++ encs (zs.drop (i + 1)) := by rw [List.drop_eq_getElem_cons hlt, encs, List.append_assoc]
    rw [ed]
    refine ⟨h3, a3, loop_on ?_ y1, y2, fun b hb => .inr ?_, KB.trans k2 y4 (fun _ _ h => h) (fun b hbl hb => by have := f2 b hb; omega)⟩
    · rw [B23_1_eq]
      refine ifT (decide_eq_true (by omega)) (ifT ⟨by omega, by omega⟩ (bs rfl ?_))
      simp only [Int.toNat_natCast]
      refine bI (n := zs[i]) (by
        have := oz.at0 (i := i * 1) (v := .int .i64 zs[i]) (by rw [Nat.mul_one]; simp [iv, hlt])
        rw [Nat.zero_add]
        exact this) (bs e2 (bS rfl ?_))
      rw [w64i (n := (i : Int) + 1) (by omega) (by omega)]
      rfl
    · rcases y3 b hb with h | h
      · exact f2 b h
      · omega
theorem implPut_loop {base : Nat} {l : List In} {a : Option Addr} (hl : l.length ≤ 200) (hL : ∀ x ∈ l, x.s.size ≤ 12) {lo : Nat} (hlo : base ≤ lo) : ∀ (d i : Nat) (h : AH) (ao : Option Addr) (acc : List Int), i + d = l.length → Sl h a (insR l) → (∀ b, insR l ≠ [] → blk a b → b < lo) → lo ≤ h.length → Own base 5 h ao (iv .u8 acc) → (∀ b, blk ao b → lo ≤ b) → acc.length ≤ 4 + 36 * i →
    ∃ h' ao', loopL (B23_0 base) [some (.slice ao acc.length acc.length), some (.slice a l.length l.length), some (.int .i64 (l.length : Int)), some (.int .i64 (i : Int))] h = some (2, [some (.slice ao' (acc ++ insBs (l.drop i)).length (acc ++ insBs (l.drop i)).length)], h') ∧ Own base 5 h' ao' (iv .u8 (acc ++ insBs (l.drop i))) ∧ (∀ b, blk ao' b → lo ≤ b) ∧ KB (fun b => lo ≤ b) h h' := by
  intro d
  induction d with
  | zero =>
    intro i h ao acc hi hs hab hlh ow hao hacc
    rw [List.drop_eq_nil_of_le (by omega), show insBs [] = [] from rfl, List.append_nil]
    refine ⟨h, ao, ?_, ow, hao, KB.refl _ _⟩
    refine loop_off (by decide) ?_
    rw [B23_0_eq]
    exact ifF (by simp; omega) rfl
  | succ d ihd =>
    intro i h ao acc hi hs hab hlh ow hao hacc
    have hlt : i < l.length := by omega
    have hsz := hL _ (List.getElem_mem hlt)
    obtain ⟨ad, ea, g0, g1, g2, g3, g4, g5⟩ := In.get hs hlt
    obtain ⟨o1, k1, q1⟩ := box_own (base := base) (t := 116) (h := h) (cs := inV l[i]) (by omega) rfl
    generalize hh1 : h ++ [some (⟨inV l[i], 116⟩ : Blk)] = h1 at o1 k1 q1
    obtain ⟨o2, k2, q2⟩ := box_own (base := base) (t := 3) (h := h1) (cs := iv .i64 (sixOf l[i])) (by omega) rfl
    generalize hh2 : h1 ++ [some (⟨iv .i64 (sixOf l[i]), 3⟩ : Blk)] = h2 at o2 k2 q2
    have hao' : ∀ b, blk ao b → b < h.length := fun b hb => (ow.lt hb).2
    obtain ⟨h3, a3, e3, w3, f3, k3⟩ := nums_loop (base := base) (ob := h1.length) (p := ⟨h.length, 0, none⟩) (a := a) (n := l.length) (m := (l.length : Int)) (q := (i : Int)) (zs := sixOf l[i]) rfl 6 0 h2 ao acc (by omega) o2 (by omega) ((ow.keepN k1).keepN k2) (fun b hb => by have := hao' b hb; omega) (by omega) (by omega)
    have n3 := k3.1
    rw [List.drop_zero] at e3 w3
    have z3 : (acc ++ encs (sixOf l[i])).length ≤ 28 + 36 * i := by
      have := encs_len (sixOf l[i])
      rw [List.length_append]
      simp only [sixOf, List.length_cons, List.length_nil] at this
      simp only [sixOf]
      omega
    obtain ⟨a4, h4, e4, w4, k4, f4⟩ := appStr (base := base) (s := l[i].s) w3 (by omega) (by omega)
    have n4 := k4.1
    have o13 := ((o1.keepN k2).keep k3 fun b hb hk => by rw [blk_at0] at hb; have := hao' b hk; omega)
    have k04 : KB (fun b => lo ≤ b) h h4 := KB.trans (KB.trans (KB.mono (kN k1 k2) fun _ _ h => h.elim) k3 (fun _ _ h => h) (fun b _ hb => hao b hb)) k4 (fun _ _ h => h) (fun b _ hb => by
      rcases f3 b hb with h | h
      · exact hao b h
      · omega)
    have hs4 : Sl h4 a (insR l) := by
      by_cases hne : insR l = []
      · exact .inl hne
      · exact hs.keep k04 fun b hb hk => by have := hab b hne hb; omega
    have eacc : acc ++ encs (sixOf l[i]) ++ sb l[i].s = acc ++ insB l[i] := by unfold insB; rw [List.append_assoc]
    have z4 : (acc ++ insB l[i]).length ≤ 4 + 36 * (i + 1) := by rw [← eacc, List.length_append, sb_len]; omega
    rw [eacc] at w4
    obtain ⟨h9, a9, y1, y2, y3, y4⟩ := ihd (i + 1) h4 a4 (acc ++ insB l[i]) (by omega) hs4 hab (by omega) w4 (fun b hb => by
      rcases f4 b hb with h | h
      · rcases f3 b h with h | h
        · exact hao b h
        · omega
      · omega) z4
    have ed : acc ++ insBs (l.drop i) = acc ++ insB l[i] ++ insBs (l.drop (i + 1)) := by rw [List.drop_eq_getElem_cons hlt, insBs, List.append_assoc]
    rw [ed]
    refine ⟨h9, a9, loop_on ?_ y1, y2, y3, KB.trans k04 y4 (fun _ _ h => h) (fun _ _ h => h)⟩
    subst ea
    rw [B23_0_eq]
    refine ifT (decide_eq_true (by omega)) (ifT ⟨by omega, by omega⟩ (bs rfl ?_))
    simp only [Int.toNat_natCast]
    refine bI g0 (bI g1 (bI g2 (bI g3 (bI g4 (bT g5 (nw (by omega) rfl fun y ey => ?_))))))
    rw [hh1] at ey
    rw [ey]
    refine qi o1 (lets fun y2 ey2 => ?_)
    rw [show y2 = h2 from ey2.trans hh2]
    refine bs e3 (ifT rfl (bS rfl (bs rfl (bS rfl (bI rfl (bI rfl (bT (o13.at0 (i := 5) rfl) (bs e4 (bS rfl ?_)))))))))
    rw [w64i (n := (i : Int) + 1) (by omega) (by omega), eacc]
    rfl
theorem implPutCode_run {base : Nat} {h : AH} {l : List In} {a : Option Addr} (hL : ∀ x ∈ l, x.s.size ≤ 9223372036854775807) (hl : l.length ≤ 9223372036854775807) (hs : Sl h a (insR l)) (hb : base ≤ h.length) :
    ∃ ao h', run (Et base) 23 [.slice a l.length l.length] h = some (.slice ao (pcB l).length (pcB l).length, h') ∧ Own base 5 h' ao (iv .u8 (pcB l)) ∧ (∀ b, blk ao b → h.length ≤ b) ∧ KB NoB h h' := by
  obtain ⟨h1, e1, k1⟩ := implCodeOk_run (base := base) hL hl hs hb
  have n1 := k1.1
  unfold pcB
  cases c : codeOk l with
  | false =>
    rw [c] at e1
    rw [if_neg (by decide)]
    exact ⟨none, h1, r23 (bs e1 (bB rfl (ifT rfl rfl))), .inl ⟨rfl, rfl⟩, fun b hb' => (by obtain ⟨_, e, _⟩ := hb'; cases e), k1⟩
  | true =>
    rw [c] at e1
    rw [if_pos rfl]
    obtain ⟨l1, l2, l3⟩ := codeOk_spec c
    obtain ⟨a3, h3, e3, w3, k3, f3⟩ := addNum_run (base := base) (h := h1) (a := none) (xs := []) (v := (l.length : Int)) (.inl ⟨rfl, rfl⟩) (by simp) (by omega)
    have n3 := k3.1
    have k3' : KB NoB h1 h3 := k3.mono fun i hi ⟨ad, e, _⟩ => by cases e
    have k03 := kN k1 k3'
    obtain ⟨h4, a4, y1, y2, y3, y4⟩ := implPut_loop (base := base) l1 l3 (lo := h1.length) (by omega) l.length 0 h3 a3 ([] ++ encN (l.length : Int)) (by omega) (hs.keepN k03) (fun b hne hb' => by have := sl_lt hs hne hb'; omega) n3 w3 f3 (by have := encN_length (l.length : Int); simp; omega)
    rw [List.drop_zero, List.nil_append] at y1 y2
    refine ⟨a4, h4, r23 (bs e1 (bB rfl (ifF (by decide) ?_))), y2, fun b hb' => by have := y3 b hb'; omega, kFresh k03 y4 fun i hi => by omega⟩
    exact bs e3 (bS rfl (bs y1 (ifT rfl (bS rfl rfl))))
end Go.Proofs.Ytnmjhhipbfngkaa.Am
