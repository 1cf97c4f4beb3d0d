/- What is drawn: what was said; the law of NoRooms.
Conditions: none. -/
import Derived.Test.YtgigdaijailfkaaTiD
import Derived.Test.YtgigdaijailfkaaDr2
set_option linter.unusedSimpArgs false
set_option linter.unusedVariables false
namespace Go.Proofs.Ytgigdaijailfkaa.Am
open Go Go.RowKit

theorem drawNoRooms_loop {base cb lo : Nat} (hcb : cb < lo) (hlo : base ≤ lo) : ∀ (d : Nat) (h : AH) (ao : Option Addr) (vs : List Value) (T : Fp) (l : List Sd), CurR base cb h → lo ≤ h.length → Own base 50 h ao vs → vs.length = l.length * 6 → l.length + d ≤ 1000 → Chunks 6 (SdD 2) T h l vs → (∀ b, T b → lo ≤ b ∧ b < h.length) → (∀ b, blk ao b → ¬ T b ∧ lo ≤ b) →
    ∃ h' ao' vs' T' l', loopL (B33_0 base) [some (.pointer (at0 cb)), some (.slice ao l.length l.length), some (.int .i64 (d : Int))] h = some (2, [some (.slice ao' (List.length l') (List.length l'))], h') ∧ Own base 50 h' ao' vs' ∧ vs'.length = l'.length * 6 ∧ l'.length ≤ 1000 ∧ Chunks 6 (SdD 2) T' h' l' vs' ∧ (∀ b, T' b → lo ≤ b ∧ b < h'.length) ∧ (∀ b, blk ao' b → ¬ T' b ∧ lo ≤ b) ∧ KB (fun b => b = cb ∨ lo ≤ b) h h' := by
  intro d
  induction d with
  | zero =>
    intro h ao vs T l x hlh ow hv hl hc hT ha
    refine ⟨h, ao, vs, T, l, loop_off (by decide) ?_, ow, hv, by omega, hc, hT, ha, KB.refl _ _⟩
    rw [B33_0_eq]
    exact ifF (by simp) rfl
  | succ d ihd =>
    intro h ao vs T l x hlh ow hv hl hc hT ha
    have hxl := x.lt
    obtain ⟨t, cs, h1, e1, m1, tb1, x1, k1⟩ := l1Draw_run (base := base) (cb := cb) 1 1 (by omega) (by omega) h x
    have n1 := k1.1
    obtain ⟨k, n, s, a, m, rfl⟩ := m1.form
    obtain ⟨o2, k2, q2⟩ := box_own (base := base) (t := 48) (h := h1) (cs := termV k n s a m) (by omega) rfl
    generalize hh2 : h1 ++ [some (⟨termV k n s a m, 48⟩ : Blk)] = h2 at o2 k2 q2
    obtain ⟨b11, h10, e10, x10, k10, l10⟩ := l1Once_run (n := 2) (x1.keepN k2) (by omega)
    have o10 := o2.keepB k10 fun b hb => by rw [blk_at0] at hb; omega
    have k010 : KB (· = cb) h h10 := kC (kCN k1 k2) k10
    obtain ⟨h9, t', k', n', s', a', m', o9, m9, x9, k9, l9, e9⟩ : ∃ h9 t' k' n' s' a' m', Own base 48 h9 (at0 h1.length) (termV k' n' s' a' m') ∧ TmD 2 (iS h.length h9.length) h9 t' (termV k' n' s' a' m') ∧ CurR base cb h9 ∧ KB (· = cb) h h9 ∧ h1.length < h9.length ∧
        ((run (Et base) 69 [(.pointer (at0 cb)), (.int .i64 (2 : Int))] h2).bind fun r10 =>
          ((some r10.1).bind getB).bind fun b11 =>
          (if b11 = true then
          (run (Et base) 70 [(.string (⟨#[110, 111, 114, 111, 111, 109]⟩ : ByteArray))] r10.2).bind fun r12 =>
          ((some r12.1).bind (getAgg 4)).bind fun l13 =>
          ((l13[0]?).bind (getI .i64)).bind fun n14 =>
          ((l13[1]?).bind (getI .i64)).bind fun n15 =>
          ((l13[2]?).bind getStr).bind fun s16 =>
          ((l13[3]?).bind getS).bind fun l17 =>
          (Am.wr base r12.2 h1.length 0 [(.int .i64 n14), (.int .i64 n15), (.string s16), (.slice l17.1 l17.2 l17.2)]).bind fun h18 =>
          some (Sum.inl ([some (.pointer (at0 cb)), some (.slice ao l.length l.length), some (.int .i64 ((d + 1 : Nat) : Int)), some (.pointer (at0 h1.length))], h18))
          else
          some (Sum.inl ([some (.pointer (at0 cb)), some (.slice ao l.length l.length), some (.int .i64 ((d + 1 : Nat) : Int)), some (.pointer (at0 h1.length))], r10.2)) : Option (Sum (Slots × AH) (Nat × Slots × AH)))) = some (Sum.inl ([some (.pointer (at0 cb)), some (.slice ao l.length l.length), some (.int .i64 ((d + 1 : Nat) : Int)), some (.pointer (at0 h1.length))], h9)) := by
      cases b11 with
      | false =>
        have mm := TmD.kp _ _ _ _ _ _ _ k10 (fun b (hb : iS h.length h1.length b) hu => by omega) (TmD.kp _ _ _ _ _ _ _ k2 (fun _ _ h => h) m1)
        exact ⟨h10, t, k, n, s, a, m, o10, TmD.mo _ _ _ _ _ _ (fun b hb => by constructor <;> omega) mm, x10, k010, by omega, bs e10 (bB rfl rfl)⟩
      | true =>
        obtain ⟨h12, e12, k12⟩ := l9Atom_run (base := base) (h := h10) (w := nr) (by omega)
        have n12 := k12.1
        obtain ⟨h18, e18, o18, k18, l18⟩ := (o10.keepN k12).wr0 (i := 0) (new := termV 2 0 nr none 0) (by simp) (by simp)
        have hz : setAt (termV k n s a m) 0 (termV 2 0 nr none 0) = termV 2 0 nr none 0 := rfl
        rw [hz] at o18
        exact ⟨h18, .mk 2 0 nr [], 2, 0, nr, none, 0, o18, (leafD (by decide)).1, (x10.keepN k12).keep k18 fun b hb => by omega, kCF (kCN k010 k12) k18 fun i hi => by omega, by omega, bs e10 (bB rfl (bs e12 (bs (v := termV 2 0 nr none 0) rfl (bI rfl (bI rfl (bT rfl (bS rfl (bs e18 rfl))))))))⟩
    have n9 := k9.1
    obtain ⟨n24, h23, e23, z0, z1, _, x23, k23, l23⟩ := l1Below_run (n := 3) x9 (by omega)
    have z1 := z1 (by omega)
    have o23 := o9.keepB k23 fun b hb => by rw [blk_at0] at hb; omega
    have k023 : KB (· = cb) h h23 := kC k9 k23
    have m23 := SdD.kp 2 _ _ _ _ (⟨1 + n24, 1, t'⟩ : Sd) (saidV (1 + n24) 1 k' n' s' a' m') k23 (fun b (hb : iS h.length h9.length b) hu => by omega) ⟨_, _, _, _, _, rfl, m9⟩
    have ow23 := ow.keep k023 fun b hb hu => by have := (ha b hb).2; omega
    obtain ⟨a5, h5, e5, o5, k5, b5, n5⟩ := app1 (bytes := 72) ow23 (n := l.length) (sz := 6) (cs := saidV (1 + n24) 1 k' n' s' a' m') hv rfl (by decide) rfl (by omega) (by omega) (by omega)
    have hao : ∀ b, blk ao b → b < h.length := fun b hb => (ow.lt hb).2
    have ch := ((hc.keep (SdD.kp _) k023 fun b hb hu => by have := hT b hb; omega).snoc (vs' := vs ++ saidV (1 + n24) 1 k' n' s' a' m') (S' := fun b => T b ∨ iS h.length h9.length b) m23 (fun b hb hb' => by have := hT b hb'; omega) (fun b hb => .inl hb) (fun b hb => .inr hb) (fun j hj => chunk_app_other (by have := mul_le' (w := 6) hj; omega)) (chunk_app_self rfl hv)).keep (SdD.kp _) k5 (fun b hb hk => by
        rcases hb with hb | hb
        · exact (ha b hk).1 hb
        · have := hao b hk; omega)
    have k05 : KB (fun b => b = cb ∨ lo ≤ b) h h5 := KB.trans k023 k5 (fun _ _ h => .inl h) (fun b _ hb => .inr (ha b hb).2)
    obtain ⟨h6, a6, vs6, T6, l6, y1, y2, y3, y4, y5, y6, y7, y8⟩ := ihd h5 a5 (vs ++ saidV (1 + n24) 1 k' n' s' a' m') (fun b => T b ∨ iS h.length h9.length b) (l ++ [⟨1 + n24, 1, t'⟩]) (x23.keep k5 fun b hb => by have := (ha b hb).2; omega) (by omega) o5 (by simp; omega) (by simp; omega) ch (fun b hb => by
        rcases hb with hb | hb
        · have := hT b hb; omega
        · constructor <;> omega) (fun b hb => by
        have := b5 b hb
        subst this
        refine ⟨fun hb => ?_, by omega⟩
        rcases hb with hb | hb
        · have := hT _ hb; omega
        · omega)
    refine ⟨h6, a6, vs6, T6, l6, loop_on ?_ y1, y2, y3, y4, y5, y6, y7, KB.trans k05 y8 (fun _ _ h => h) (fun _ _ h => h)⟩
    rw [B33_0_eq]
    have hb1 : base ≤ h1.length := by omega
    refine ifT (decide_eq_true (by omega)) (bs e1 (bs (v := termV k n s a m) rfl (bI rfl (bI rfl (bT rfl (bS rfl (nw hb1 rfl fun y ey => ?_)))))))
    have ey2 : y = h2 := by rw [ey]; exact hh2
    subst ey2
    refine bj _ e9 ?_
    refine bs rfl (bS rfl (bI rfl (bs rfl (bs e23 (bI rfl ?_)))))
    rw [gate_pos (by
      intro z hz
      injection hz with hz
      subst hz
      have e := k23.2 h1.length l9 (by omega)
      exact ⟨fun j _ => by unfold Am.cell; rw [e], by rw [e]⟩)]
    refine bI (o23.at0 (i := 0) rfl) (bI (o23.at0 (i := 1) rfl) (bT (o23.at0 (i := 2) rfl) (bS (o23.at0 (i := 3) rfl) (lets fun y2 ey2 => ?_))))
    subst ey2
    rw [w64i (n := 1 + n24) (by omega) (by omega)]
    refine bs e5 (bS rfl ?_)
    rw [w64i (by omega) (by omega), show (((d + 1 : Nat) : Int) - 1) = (d : Int) from by omega]
    simp

theorem drawNoRooms_run {base : Nat} {h : AH} {a : Option Addr} {zs : List Int} (s : Sl h a (iv .u8 zs)) (hz : zs = [] ∨ ∀ b, blk a b → b < base) (hl : zs.length ≤ 9223372036854775806) (hb : base ≤ h.length) :
    ∃ a' l h', run (Et base) 33 [.slice a zs.length zs.length] h = some (.slice a' (List.length l) (List.length l), h') ∧ l.length ≤ 1000 ∧ RowD 6 (SdD 2) (iS h.length h'.length) h' l a' ∧ KB NoB h h' := by
  obtain ⟨h1, e1, x1, k1, l1⟩ := l1New_run (base := base) s hz hl hb
  obtain ⟨o2, k2, q2⟩ := box_own (base := base) (t := 50) (h := h1) (cs := []) (by omega) rfl
  generalize hh2 : h1 ++ [some (⟨[], 50⟩ : Blk)] = h2 at o2 k2 q2
  obtain ⟨n, h4, e4, z0, z1, _, x4, k4, l4⟩ := l1Below_run (n := 5) (x1.keepN k2) (by omega)
  have z1 := z1 (by omega)
  have o4 := o2.keepB k4 fun b hb => by rw [blk_at0] at hb; omega
  obtain ⟨h5, ao, vs, T, l, e5, ow, hv, hll, hc, hT, ha, k5⟩ := drawNoRooms_loop (base := base) (cb := h.length) (lo := h1.length) (by omega) (by omega) n.toNat h4 (at0 h1.length) [] (fun _ => False) [] x4 (by omega) o4 (by simp) (by simp; omega) Chunks.nil (fun _ h => h.elim) (fun b hb => by rw [blk_at0] at hb; exact ⟨fun h => h, by omega⟩)
  rw [show ((n.toNat : Nat) : Int) = n from by omega] at e5
  have k04 : KB NoB h h4 := kFresh (kN k1 k2) k4 fun i hi => by omega
  refine ⟨ao, l, h5, r33 (bs e1 (bs rfl (lets fun y ey => ?_))), hll, ⟨vs, T, ow.sl, hv, .inr fun b hb' => ⟨⟨by have := (ha b hb').2; omega, (ow.lt hb').2⟩, (ha b hb').1⟩, fun b hb' => by have := hT b hb'; constructor <;> omega, hc⟩, kFresh k04 k5 fun i hi => by omega⟩
  have ey2 : y = h2 := by rw [ey]; exact hh2
  subst ey2
  exact bs e4 (bI rfl (bs e5 (ifT rfl (bS rfl rfl))))

/-! ### The law -/
def ends : List Sd → Nat
  | [] => 0
  | x :: r => (if x.kind = 3 then 1 else 0) + ends r
theorem cnt_ends : ∀ l, cnt l ≤ ends l
  | [] => Nat.le_refl _
  | x :: r => by
    have := cnt_ends r
    simp only [cnt, ends]
    by_cases c : x.kind = 3
    · rw [if_pos c]; split <;> omega
    · rw [if_neg c]
      have : isNr x = false := by
        unfold isNr
        cases x.t with
        | mk k n s l => simp [c]
      rw [this]
      simp only [Bool.false_eq_true, if_false]
      omega
theorem ends_le : ∀ l, ends l ≤ l.length
  | [] => Nat.le_refl _
  | x :: r => by
    have := ends_le r
    simp only [ends, List.length_cons]
    split <;> omega
theorem cnt_app : ∀ l r, cnt (l ++ r) = cnt l + cnt r
  | [], r => by simp [cnt]
  | x :: l, r => by
    have := cnt_app l r
    simp only [List.cons_append, cnt]
    omega
theorem ends_drop {l : List Sd} {i : Nat} (hi : i < l.length) : ends (l.drop i) = (if l[i].kind = 3 then 1 else 0) + ends (l.drop (i + 1)) := by rw [List.drop_eq_getElem_cons hi]; rfl
theorem ends_loop {base f : Nat} {p : Nat → Prop} {l : List Sd} {a : Option Addr} {h : AH} {n : Int} (hl : l.length ≤ 1048576) (hs : SsR h p f l a) : ∀ (d i : Nat) (z : Int), i + d = l.length → 0 ≤ z → z ≤ (i : Int) →
    loopL (B6_0 base) [some (.slice a l.length l.length), some (.int .i64 n), some (.int .i64 z), some (.int .i64 (i : Int))] h = some (2, [some (.slice a l.length l.length), some (.int .i64 n), some (.int .i64 (z + ((ends (l.drop i) : Nat) : Int)))], h) := by
  intro d
  induction d with
  | zero =>
    intro i z hi h0 h1
    rw [show l.drop i = [] from List.drop_eq_nil_of_le (by omega)]
    refine loop_off (by decide) ?_
    rw [B6_0_eq]
    exact ifF (by simp; omega) (by simp [ends])
  | succ d ih =>
    intro i z hi h0 h1
    have hlt : i < l.length := by omega
    rw [ends_drop hlt]
    obtain ⟨ad, k, m, s, a2, m2, rfl, _, g0, _⟩ := hs.get hlt
    have el := ends_le (l.drop (i + 1))
    rw [List.length_drop] at el
    by_cases c : l[i].kind = 3
    · have e := ih (i + 1) (z + 1) (by omega) (by omega) (by omega)
      rw [if_pos c, show z + ((1 + ends (l.drop (i + 1)) : Nat) : Int) = z + 1 + ((ends (l.drop (i + 1)) : Nat) : Int) from by omega]
      refine loop_on ?_ e
      rw [B6_0_eq]
      refine ifT (decide_eq_true (by omega)) ?_
      refine bj (q := ([some (.slice (some ad) l.length l.length), some (.int .i64 n), some (.int .i64 (z + 1)), some (.int .i64 (i : Int))], h)) ?_ ?_
      · refine ifT ⟨by omega, by omega⟩ (bs rfl ?_)
        simp only [Int.toNat_natCast]
        refine bI g0 (ifT (by simp [c]) ?_)
        rw [w64i (by omega) (by omega)]
      · refine bS rfl (bI rfl (bI rfl (bI rfl ?_)))
        rw [w64i (by omega) (by omega), show ((i : Int) + 1) = ((i + 1 : Nat) : Int) from by omega]
    · have e := ih (i + 1) z (by omega) h0 (by omega)
      rw [if_neg c, Nat.zero_add]
      refine loop_on ?_ e
      rw [B6_0_eq]
      refine ifT (decide_eq_true (by omega)) ?_
      refine bj (q := ([some (.slice (some ad) l.length l.length), some (.int .i64 n), some (.int .i64 z), some (.int .i64 (i : Int))], h)) ?_ ?_
      · refine ifT ⟨by omega, by omega⟩ (bs rfl ?_)
        simp only [Int.toNat_natCast]
        exact bI g0 (ifF (by simp [c]) rfl)
      · refine bS rfl (bI rfl (bI rfl (bI rfl ?_)))
        rw [w64i (by omega) (by omega), show ((i : Int) + 1) = ((i + 1 : Nat) : Int) from by omega]
/-- A row's cells, laid bare. -/
theorem RowD.raw {f : Nat} {S : Fp} {h : AH} {l : List Sd} {a : Option Addr} (x : RowD 6 (SdD f) S h l a) : ∃ vs, rawAt h a (l.length * 6) = some vs ∧ vs.length = l.length * 6 ∧ vs.all leaf = true ∧ ∀ i x, l[i]? = some x → ∃ ct, chunk 6 i vs = .int .i64 x.kind :: .int .i64 x.pid :: ct ∧ TmR h S f x.t ct := by
  obtain ⟨vs, T, x1, x2, x3, x4, C, c1, c2, c3⟩ := x
  have hc : ∀ i x, l[i]? = some x → ∃ k n s a m, chunk 6 i vs = saidV x.kind x.pid k n s a m ∧ TmD f (C i) h x.t (termV k n s a m) := fun i x hx => c3 i x hx
  have hleaf : vs.all leaf = true := by
    rw [List.all_eq_true]
    intro v hv
    obtain ⟨j, hj, rfl⟩ := List.mem_iff_getElem.1 hv
    have hi : j / 6 < l.length := by omega
    obtain ⟨k, n, s, a2, m, e, _⟩ := hc (j / 6) l[j / 6] (List.getElem?_eq_getElem hi)
    have hget : (chunk 6 (j / 6) vs)[j % 6]? = some vs[j] := by
      rw [chunk, List.getElem?_take_of_lt (by omega), List.getElem?_drop, show j / 6 * 6 + j % 6 = j from by omega]
      exact List.getElem?_eq_getElem hj
    rw [e] at hget
    have hm := List.mem_of_getElem? hget
    have hall : (saidV l[j / 6].kind l[j / 6].pid k n s a2 m).all leaf = true := rfl
    exact List.all_eq_true.1 hall _ hm
  refine ⟨vs, ?_, x2, hleaf, fun i x hx => ?_⟩
  · have := x1.raw hleaf
    rw [x2] at this
    exact this
  · obtain ⟨k, n, s, a2, m, e, t⟩ := hc i x hx
    exact ⟨_, e, (TmD.tmR _ _ _ _ _ t).mono (fun b hb => x4 b (c1 i b hb)) _ _ _⟩

theorem noRooms_all {base : Nat} {h : AH} {a : Option Addr} {zs : List Int} (s : Sl h a (iv .u8 zs)) (hb : h.length = base) :
    ∃ h', run (Et base) 6 [.slice a zs.length zs.length] h = some (.bool true, h') := by
  have hz : zs = [] ∨ ∀ b, blk a b → b < base := by
    rcases sl_below s with e | e
    · exact .inl (by cases zs with | nil => rfl | cons x r => simp [iv] at e)
    · exact .inr fun b hb' => by have := e b hb'; omega
  have big : run (Et base) 32 [.slice a zs.length zs.length] h = some (.bool (decide (((zs.length : Nat) : Int) > (1048576 : Int))), h) := r32 rfl
  by_cases c : ((zs.length : Nat) : Int) > (1048576 : Int)
  · exact ⟨h, r6 (bs big (bB rfl (ifT (decide_eq_true c) rfl)))⟩
  obtain ⟨al, l, h3, e3, hl3, R3, k3⟩ := drawNoRooms_run (base := base) s hz (by omega) (by omega)
  have n3 := k3.1
  obtain ⟨h5, e5, k5⟩ := implNoRooms_run (base := base) (by omega) R3.ssR (by omega)
  have n5 := k5.1
  have R5 := R3.keep (SdD.kp _) k5 fun _ _ h => h
  have e7 := ends_loop (base := base) (n := ((cnt l : Nat) : Int)) (by omega) R5.ssR l.length 0 0 (by omega) (by omega) (by omega)
  rw [show ((0 : Nat) : Int) = 0 from rfl, List.drop_zero, Int.zero_add] at e7
  have hen := ends_le l
  have hce := cnt_ends l
  obtain ⟨o11, k11, q11⟩ := box_own (base := base) (t := 50) (h := h5) (cs := []) (by omega) rfl
  generalize hh11 : h5 ++ [some (⟨[], 50⟩ : Blk)] = h11 at o11 k11 q11
  have R11 := R5.keep (SdD.kp _) k11 fun _ _ h => h
  obtain ⟨vs, hraw, hvl, hleaf, hch⟩ := R11.raw
  obtain ⟨a12, h12, e12, o12, k12, d12⟩ := Own.app o11 (n := 0) (m := l.length) (sz := 6) (bytes := 72) (by simp) (by decide) hraw (by omega) (by omega) (by omega) hvl
  have n12 := k12.1
  have hb12 : ∀ b, blk a12 b → b = h5.length ∨ b = h11.length := by
    rcases d12 with ⟨_, e, _⟩ | d
    · subst e; exact fun b hb => .inl (blk_at0.1 hb)
    · exact fun b hb => .inr (d b hb)
  have R12 := R11.keep (SdD.kp _) k12 fun b hb hu => by rw [blk_at0] at hu; omega
  rw [Nat.zero_add, List.nil_append] at *
  obtain ⟨a15, h15, e15, o15, k15, b15, n15⟩ := app1 (bytes := 72) o12 (n := l.length) (sz := 6) (cs := saidV 3 1 2 0 nr none 0) hvl rfl (by decide) rfl (by omega) (by omega) (by omega)
  have R15 := R12.keep (SdD.kp _) k15 fun b hb hu => by have := hb12 b hu; omega
  obtain ⟨h17, e17, k17⟩ := specNoRooms_run (base := base) (by omega) R15.ssR (by omega)
  have n17 := k17.1
  have k1517 := k17
  obtain ⟨o19, k19, q19⟩ := box_own (base := base) (t := 50) (h := h17) (cs := []) (by omega) rfl
  generalize hh19 : h17 ++ [some (⟨[], 50⟩ : Blk)] = h19 at o19 k19 q19
  obtain ⟨h20, e20, k20⟩ := implNoRooms_run (base := base) (f := 1) (p := fun _ => True) (h := h19) (l := []) (a := at0 h17.length) (by simp) ⟨[], .inl rfl, .inl rfl, rfl, fun i x hx => by simp at hx⟩ (by omega)
  have n20 := k20.1
  have k1520 := kN (kN k17 k19) k20
  have one : SsR h20 (fun b => b < h20.length) 2 (l ++ [⟨3, 1, .mk 2 0 nr []⟩]) a15 := by
    refine ⟨vs ++ saidV 3 1 2 0 nr none 0, (o15.keepN k1520).sl, .inr fun b hb => by have := b15 b hb; have := k1520.1; omega, by simp; omega, fun i x hx => ?_⟩
    have hlt : i < l.length + 1 := by have := (List.getElem?_eq_some_iff.1 hx).1; simpa using this
    by_cases e : i = l.length
    · subst e
      simp at hx
      subst hx
      refine ⟨termV 2 0 nr none 0, chunk_app_self (w := 6) rfl hvl, TmD.tmR _ _ _ _ _ (leafD (by decide)).1⟩
    · have hi : i < l.length := by omega
      rw [List.getElem?_append_left hi] at hx
      obtain ⟨ct, e1, e2⟩ := hch i x hx
      refine ⟨ct, (chunk_app_other (w := 6) (by have := mul_le' (w := 6) hi; omega)).trans e1, ?_⟩
      have t12 := TmR.keep k12 (fun b hb hu => by rw [blk_at0] at hu; omega) _ _ _ e2
      have t15 := TmR.keep k15 (fun b hb hu => by have := hb12 b hu; omega) _ _ _ t12
      exact (TmR.keep k1520 (fun _ _ h => h) _ _ _ t15).mono (fun b hb => by have := k1520.1; omega) _ _ _
  obtain ⟨h22, e22, k22⟩ := implNoRooms_run (base := base) (by simp; omega) one (by omega)
  rw [cnt_app, show cnt [⟨3, 1, .mk 2 0 nr []⟩] = 1 from by simp [cnt, isNr, isA]] at e22
  refine ⟨h22, r6 (bs big (bB rfl (ifF (by simpa using c) (bs e3 (bS rfl (bs e5 (bI rfl (bs e7 (ifT rfl (bS rfl (bI rfl (bI rfl (lets fun y ey => ?_)))))))))))))⟩
  have ey2 : y = h11 := by rw [ey]; exact hh11
  subst ey2
  refine bs e12 (bS rfl (lets fun y2 ey2 => ?_))
  subst ey2
  refine bs e15 (bS rfl (bs e17 (bI rfl (ifT (by simp) (ifT (decide_eq_true (by omega)) (lets fun y ey => ?_))))))
  have ey2 : y = h19 := by rw [ey]; exact hh19
  subst ey2
  refine bs e20 (bI rfl (ifT rfl (bs (v := (.int .i64 ((cnt l + 1 : Nat) : Int), h22)) (by simpa using e22) (bI rfl ?_))))
  rw [w64i (by omega) (by omega)]
  simp
end Go.Proofs.Ytgigdaijailfkaa.Am
