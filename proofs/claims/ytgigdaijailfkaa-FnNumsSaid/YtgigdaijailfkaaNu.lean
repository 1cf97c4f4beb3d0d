/- The law Nums: a drawn number, or the nearest that is kept, comes back of its bytes; cut it does not.
Conditions: none. -/
import Derived.Test.YtgigdaijailfkaaGt
import Derived.Test.YtgigdaijailfkaaDr
set_option linter.unusedSimpArgs false
set_option linter.unusedVariables false
namespace Go.Proofs.Ytgigdaijailfkaa.Am
open Go Go.RowKit

/-- A row of bytes of one's own, in range. -/
def ByO (base : Nat) (h : AH) (xs : List Int) (a : Option Addr) : Prop := Own base 5 h a (iv .u8 xs) ∧ ∀ x ∈ xs, 0 ≤ x ∧ x ≤ 255
theorem kMB {S U : Nat → Prop} {a b c : AH} (x : KB S a b) (y : KB U b c) (T : Nat → Prop) (h1 : ∀ i, S i → T i) (h2 : ∀ i, i < a.length → U i → T i) : KB T a c := KB.trans x y (fun i _ h => h1 i h) (fun i hi h => h2 i hi h)
theorem wu8in (z : Int) : 0 ≤ IntKind.wrap .u8 z ∧ IntKind.wrap .u8 z ≤ 255 := by
  have : IntKind.wrap .u8 z = z % 256 := IntKind.wrap_u8 z
  omega

theorem l1Bytes_loop {base cb lo : Nat} (hcb : cb < lo) {n : Int} (hn : n ≤ 1000) : ∀ (d i : Nat) (h : AH) (a : Option Addr) (xs : List Int), (i : Int) + (d : Int) = n → xs.length = i → CurR base cb h → lo ≤ h.length → ByO base h xs a → (∀ b, blk a b → lo ≤ b) →
    ∃ h' a' xs', loopL (B73_0 base) [some (.pointer (at0 cb)), some (.int .i64 n), some (.slice a xs.length xs.length), some (.int .i64 (i : Int))] h = some (2, [some (.slice a' (List.length xs') (List.length xs'))], h') ∧ CurR base cb h' ∧ ByO base h' xs' a' ∧ (∀ b, blk a' b → lo ≤ b) ∧ List.length xs' ≤ 1000 ∧ KB (fun b => b = cb ∨ lo ≤ b) h h' := by
  intro d
  induction d with
  | zero =>
    intro i h a xs hi hx x hlo hs ha
    refine ⟨h, a, xs, loop_off (by decide) ?_, x, hs, ha, by omega, KB.refl _ _⟩
    rw [B73_0_eq]
    exact ifF (by simp; omega) rfl
  | succ d ih =>
    intro i h a xs hi hx x hlo hs ha
    have hlt := x.lt
    obtain ⟨z, h1, e1, z0, z1, x1, k1, l1⟩ := l1Byte_run x
    obtain ⟨o, hb⟩ := hs
    have o1 := o.keep k1 fun b hb' hu => by have := ha b hb'; omega
    obtain ⟨a2, h2, e2, o2, k2, b2⟩ := o1.app1 (t := 5) (bytes := 1) (n := xs.length) (by simp) (v := .int .u8 (IntKind.wrap .u8 z)) rfl (by omega) (by omega) (by omega)
    have n2 := k2.1
    have e : iv .u8 xs ++ [Value.int .u8 (IntKind.wrap .u8 z)] = iv .u8 (xs ++ [IntKind.wrap .u8 z]) := by simp [iv]
    rw [e] at o2
    have el : xs.length + 1 = (xs ++ [IntKind.wrap .u8 z]).length := by simp
    rw [el] at e2
    obtain ⟨h3, a3, xs3, e3, x3, s3, ha3, hl3, k3⟩ := ih (i + 1) h2 a2 (xs ++ [IntKind.wrap .u8 z]) (by omega) (by simp; omega) (x1.keep k2 fun b hb' => by have := ha b hb'; omega) (by omega) ⟨o2, fun y hy => by
      rcases List.mem_append.1 hy with hy | hy
      · exact hb y hy
      · rw [List.mem_singleton] at hy; subst hy; exact wu8in z⟩ (fun b hb' => by have := b2 b hb'; omega)
    refine ⟨h3, a3, xs3, loop_on ?_ e3, x3, s3, ha3, hl3, KB.trans (kMB k1 k2 (fun b => b = cb ∨ lo ≤ b) (fun _ h => .inl h) (fun i _ hi => .inr (ha i hi))) k3 (fun _ _ h => h) (fun _ _ h => h)⟩
    rw [B73_0_eq]
    refine ifT (decide_eq_true (by omega)) (bs e1 (bI rfl (lets fun y ey => ?_)))
    subst ey
    refine bs e2 (bS rfl ?_)
    rw [w64i (by omega) (by omega), show ((i : Int) + 1) = ((i + 1 : Nat) : Int) from by omega]
theorem l1Bytes_run {base cb : Nat} {h : AH} {n : Int} (x : CurR base cb h) (h0 : 0 ≤ n) (hn : n ≤ 1000) :
    ∃ h' a' xs', run (Et base) 73 [.pointer (at0 cb), .int .i64 n] h = some (.slice a' (List.length xs') (List.length xs'), h') ∧ CurR base cb h' ∧ ByO base h' xs' a' ∧ (∀ b, blk a' b → h.length ≤ b) ∧ List.length xs' ≤ 1000 ∧ KB (· = cb) h h' := by
  have hlt := x.lt
  obtain ⟨o1, k1, q1⟩ := box_own (base := base) (t := 5) (h := h) (cs := []) (by omega) rfl
  generalize hh1 : h ++ [some (⟨[], 5⟩ : Blk)] = h1 at o1 k1 q1
  obtain ⟨h2, a2, xs2, e2, x2, s2, ha2, hl2, k2⟩ := l1Bytes_loop (base := base) (cb := cb) (lo := h.length) (by omega) hn n.toNat 0 h1 (at0 h.length) [] (by omega) rfl (x.keepN k1) (by omega) ⟨o1, fun x h => nomatch h⟩ (fun b hb => by rw [blk_at0] at hb; omega)
  rw [show ((0 : Nat) : Int) = 0 from rfl] at e2
  refine ⟨h2, a2, xs2, r73 (lets fun y ey => ?_), x2, s2, ha2, hl2, KB.trans k1 k2 (fun _ _ h => h.elim) (fun i hi hu => by omega)⟩
  have ey2 : y = h1 := by rw [ey]; exact hh1
  subst ey2
  exact bs e2 (ifT rfl (bS rfl rfl))
theorem l1Below_big {base cb : Nat} {h : AH} {n : Int} (x : CurR base cb h) (hn : n > 256) (hn2 : n ≤ 1000000) : ∃ z h', run (Et base) 67 [.pointer (at0 cb), .int .i64 n] h = some (.int .i64 z, h') ∧ CurR base cb h' ∧ KB (· = cb) h h' ∧ h'.length = h.length := by
  obtain ⟨z1, h1, e1, _, _, x1, k1, l1⟩ := l1Byte_run x
  obtain ⟨z2, h2, e2, _, _, x2, k2, l2⟩ := l1Byte_run x1
  obtain ⟨z3, h3, e3, _, _, x3, k3, l3⟩ := l1Byte_run x2
  exact ⟨_, h3, r67 (ifF (by simp; omega) (ifF (by simp; omega) (bs e1 (bI rfl (bs e2 (bI rfl (bs e3 (bI rfl (ifF (by omega) rfl))))))))), x3, kC (kC k1 k2) k3, by omega⟩

theorem drawPutNum_run {base : Nat} {h : AH} {a : Option Addr} {zs : List Int} (s : Sl h a (iv .u8 zs)) (hz : zs = [] ∨ ∀ b, blk a b → b < base) (hl : zs.length ≤ 9223372036854775806) (hb : base ≤ h.length) :
    ∃ a' xs n h', run (Et base) 36 [.slice a zs.length zs.length] h = some (.tuple #[.slice a' (List.length xs) (List.length xs), .int .i64 n], h') ∧ ByO base h' xs a' ∧ List.length xs ≤ 1000 ∧ (∀ b, blk a' b → h.length ≤ b) ∧ KB NoB h h' := by
  obtain ⟨h1, e1, x1, k1, l1⟩ := l1New_run (base := base) s hz hl hb
  obtain ⟨n4, h3, e3, z0, z1, _, x3, k3, l3⟩ := l1Below_run (n := 3) x1 (by omega)
  have z1 := z1 (by omega)
  obtain ⟨h5, a5, xs, e5, x5, s5, ha5, hl5, k5⟩ := l1Bytes_run x3 z0 (by omega)
  have n5 := k5.1
  obtain ⟨n8, h7, e7, x7, k7, l7⟩ := l1Below_big (n := 10000) x5 (by omega) (by omega)
  have hlt := x7.lt
  obtain ⟨L, hL⟩ : ∃ L : List Int, L = [0, 1, -1, 63, 64, -65, 1000000, -1000000, 1000001, -9223372036854775808, 9223372036854775807, n8] := ⟨_, rfl⟩
  obtain ⟨o9, k9, q9⟩ := box_own (base := base) (t := 3) (h := h7) (cs := iv .i64 L) (by omega) rfl
  generalize hh9 : h7 ++ [some (⟨iv .i64 L, 3⟩ : Blk)] = h9 at o9 k9 q9
  have hLl : L.length = 12 := by rw [hL]; rfl
  obtain ⟨n11, h10, e10, _, x10, k10, l10⟩ := l1Int_run (x7.keepN k9) o9.sl (fun b hb => by rw [blk_at0] at hb; omega) (by omega) (by omega)
  rw [hLl] at e10
  refine ⟨a5, xs, n11, h10, r36 (bs e1 (bs rfl (bs e3 (bI rfl (bs e5 (bS rfl (bs e7 (bI rfl (lets fun y ey => ?_))))))))), ⟨((s5.1.keep k7 fun b hb hu => by have := ha5 b hb; omega).keepN k9).keep k10 fun b hb hu => by have := ha5 b hb; omega, s5.2⟩, hl5, fun b hb => by have := ha5 b hb; omega, kFresh k1 (kC (kCN (kC (kC k3 k5) k7) k9) k10) fun i hi => by omega⟩
  have ey2 : y = h9 := by rw [ey, ← hh9, hL]; rfl
  subst ey2
  exact bs e10 (bI rfl rfl)

theorem drawGetNum_run {base : Nat} {h : AH} {a : Option Addr} {zs : List Int} (s : Sl h a (iv .u8 zs)) (hz : zs = [] ∨ ∀ b, blk a b → b < base) (hl : zs.length ≤ 9223372036854775806) (hb : base ≤ h.length) :
    ∃ a' xs n h', run (Et base) 37 [.slice a zs.length zs.length] h = some (.tuple #[.slice a' (List.length xs) (List.length xs), .int .i64 n], h') ∧ ByO base h' xs a' ∧ List.length xs ≤ 1000 ∧ n ≤ 9223372036854775807 ∧ (∀ b, blk a' b → h.length ≤ b) ∧ KB NoB h h' := by
  obtain ⟨a1, xs1, n4, h1, e1, s1, _, _, k1⟩ := drawPutNum_run (base := base) s hz hl hb
  have n1 := k1.1
  obtain ⟨h5, e5, x5, k5, l5⟩ := l1New_run (base := base) (s.keepN k1) hz hl (by omega)
  have k05 := kN k1 k5
  obtain ⟨o7, k7, q7⟩ := box_own (base := base) (t := 5) (h := h5) (cs := []) (by omega) rfl
  generalize hh7 : h5 ++ [some (⟨[], 5⟩ : Blk)] = h7 at o7 k7 q7
  obtain ⟨a9, h8, e8, o8, k8, b8⟩ := specPutNum_run (base := base) (xs := []) (v := n4) (a := at0 h5.length) (h := h7) (.inl rfl) (by simp) (by omega)
  simp only [List.nil_append] at e8 o8
  have n8 := k8.1
  have hel := encN_len n4
  have hep := encN_pos n4
  obtain ⟨n12, h11, e11, _, _, _, x11, k11, l11⟩ := l1Below_run (n := 4) ((x5.keepN k7).keepN k8) (by omega)
  have o11 := o8.keep k11 fun b hb hu => by have := b8 b hb; omega
  have k011 : KB NoB h h11 := kFresh (kN (kN k05 k7) k8) k11 fun i hi => by omega
  obtain ⟨hJ, aJ, xs, eJ, xJ, sJ, hlJ, haJ, kJ⟩ : ∃ hJ aJ xs, (((run (Et base) 67 [(.pointer (at0 h1.length)), (.int .i64 (4 : Int))] h8).bind fun r11 =>
((some r11.1).bind (getI .i64)).bind fun n12 =>
(if (n12 == (0 : Int)) = true then
(run (Et base) 67 [(.pointer (at0 h1.length)), (.int .i64 (((encN n4).length : Nat) : Int))] r11.2).bind fun r13 =>
((some r13.1).bind (getI .i64)).bind fun n14 =>
(some (r13.2 ++ [some ⟨[(.int .i64 (0 : Int)), (.int .i64 (127 : Int)), (.int .i64 (128 : Int)), (.int .i64 (255 : Int))], 3⟩])).bind fun h15 =>
(run (Et base) 74 [(.pointer (at0 h1.length)), (.slice (some ⟨(List.length r13.2), 0, none⟩) 4 4)] h15).bind fun r16 =>
((some r16.1).bind (getI .i64)).bind fun n17 =>
(if 0 ≤ n14 ∧ n14 < (((encN n4).length : Nat) : Int) then
((a9 : Option Addr)).bind fun a18 =>
(Am.wr base r16.2 a18.block (a18.off + Int.toNat n14 * 1) [(.int .u8 (IntKind.wrap .u8 n17))]).bind fun h19 =>
some (Sum.inl ([some (.pointer (at0 h1.length)), some (.slice a9 (encN n4).length (encN n4).length)], h19))
else none)
else
(if (n12 == (1 : Int)) = true then
(some (r11.2 ++ [some ⟨[(.int .u8 (3 : Int))], 5⟩])).bind fun h20 =>
(Am.app base h20 5 1 1 a9 (encN n4).length (rawAt h20 (some ⟨(List.length r11.2), 0, none⟩) (1 * 1)) 1).bind fun p21 =>
((some p21.1).bind getS).bind fun l22 =>
some (Sum.inl ([some (.pointer (at0 h1.length)), some (.slice l22.1 l22.2 l22.2)], p21.2))
else
some (Sum.inl ([some (.pointer (at0 h1.length)), some (.slice a9 (encN n4).length (encN n4).length)], r11.2))))) : Option (Sum (Slots × AH) (Value × AH))) = some (Sum.inl ([some (.pointer (at0 h1.length)), some (.slice aJ (List.length xs) (List.length xs))], hJ)) ∧ CurR base h1.length hJ ∧ ByO base hJ xs aJ ∧ List.length xs ≤ 1000 ∧ (∀ b, blk aJ b → h7.length ≤ b) ∧ KB NoB h hJ := by
    by_cases c0 : (n12 == (0 : Int)) = true
    · obtain ⟨n14, h13, e13, w0, w1, _, x13, k13, l13⟩ := l1Below_run (n := (((encN n4).length : Nat) : Int)) x11 (by omega)
      have w1 := w1 (by omega)
      obtain ⟨o15, k15, q15⟩ := box_own (base := base) (t := 3) (h := h13) (cs := iv .i64 [0, 127, 128, 255]) (by omega) rfl
      generalize hh15 : h13 ++ [some (⟨iv .i64 [0, 127, 128, 255], 3⟩ : Blk)] = h15 at o15 k15 q15
      obtain ⟨n17, h16, e16, _, x16, k16, l16⟩ := l1Int_run (x13.keepN k15) o15.sl (fun b hb => by rw [blk_at0] at hb; have := x13.lt; omega) (by simp) (by simp)
      have o16 := ((o11.keep k13 fun b hb hu => by have := b8 b hb; omega).keepN k15).keep k16 fun b hb hu => by have := b8 b hb; omega
      obtain ⟨ad, h19, rfl, e19, o19, k19, l19⟩ := o16.wr (i := n14.toNat) (new := [.int .u8 (IntKind.wrap .u8 n17)]) (by simp; omega) (by simp)
      have hset : setAt (iv .u8 (encN n4)) n14.toNat [.int .u8 (IntKind.wrap .u8 n17)] = iv .u8 ((encN n4).set n14.toNat (IntKind.wrap .u8 n17)) := by
        apply List.ext_getElem?
        intro j
        rw [setAt_get (by simp; omega)]
        simp only [iv, List.getElem?_map, List.getElem?_set]
        by_cases ej : n14.toNat = j
        · subst ej
          rw [if_pos (by simp)]
          have : n14.toNat < (encN n4).length := by omega
          simp [this]
        · rw [if_neg (by simp; omega), if_neg ej]
      rw [hset] at o19
      have hlen : ((encN n4).set n14.toNat (IntKind.wrap .u8 n17)).length = (encN n4).length := by simp
      refine ⟨h19, some ad, (encN n4).set n14.toNat (IntKind.wrap .u8 n17), ?_, x16.keep k19 fun b hb => by have := b8 b hb; omega, ⟨o19, fun y hy => ?_⟩, by rw [hlen]; omega, fun b hb => b8 b hb, kFresh (kFresh (kN (kFresh k011 k13 fun i hi => by omega) k15) k16 fun i hi => by omega) k19 fun i hi => by have := b8 i hi; omega⟩
      · rw [hlen]
        refine bs e11 (bI rfl (ifT c0 (bs e13 (bI rfl (lets fun y ey => ?_)))))
        have ey2 : y = h15 := by rw [ey]; exact hh15
        subst ey2
        refine bs e16 (bI rfl (ifT ⟨w0, w1⟩ (bs rfl ?_)))
        rw [Nat.mul_one]
        exact bs e19 rfl
      · rcases List.mem_or_eq_of_mem_set hy with hy | hy
        · exact encN_bytes n4 y hy
        · subst hy; exact wu8in n17
    by_cases c1 : (n12 == (1 : Int)) = true
    · obtain ⟨a2, h2, e2, o2, k2, b2⟩ := o11.app1 (t := 5) (bytes := 1) (n := (encN n4).length) (by simp) (v := .int .u8 3) rfl (by omega) (by omega) (by omega)
      have e : iv .u8 (encN n4) ++ [Value.int .u8 3] = iv .u8 (encN n4 ++ [3]) := by simp [iv]
      rw [e] at o2
      have hlen : (encN n4 ++ [(3 : Int)]).length = (encN n4).length + 1 := by simp
      refine ⟨h2, a2, encN n4 ++ [3], ?_, x11.keep k2 fun b hb => by have := b8 b hb; omega, ⟨o2, fun y hy => ?_⟩, by omega, fun b hb => by have := b2 b hb; omega, kFresh k011 k2 fun i hi => by have := b8 i hi; omega⟩
      · rw [hlen]
        refine bs e11 (bI rfl (ifF c0 (ifT c1 (lets fun y ey => ?_))))
        subst ey
        exact bs e2 (bS rfl rfl)
      · rcases List.mem_append.1 hy with hy | hy
        · exact encN_bytes n4 y hy
        · rw [List.mem_singleton] at hy; subst hy; decide
    · exact ⟨h11, a9, encN n4, bs e11 (bI rfl (ifF c0 (ifF c1 rfl))), x11, ⟨o11, encN_bytes n4⟩, by omega, b8, k011⟩
  have nJ := kJ.1
  have hltJ := xJ.lt
  obtain ⟨o25, k25, q25⟩ := box_own (base := base) (t := 3) (h := hJ) (cs := iv .i64 [0, 0, 0, ((List.length xs : Nat) : Int), -1, 9223372036854775807]) (by omega) rfl
  generalize hh25 : hJ ++ [some (⟨iv .i64 [0, 0, 0, ((List.length xs : Nat) : Int), -1, 9223372036854775807], 3⟩ : Blk)] = h25 at o25 k25 q25
  obtain ⟨n27, h26, e26, hm, x26, k26, l26⟩ := l1Int_run (xJ.keepN k25) o25.sl (fun b hb => by rw [blk_at0] at hb; omega) (by simp) (by simp)
  refine ⟨aJ, xs, n27, h26, r37 (bs e1 (bs rfl (bS rfl (bI rfl (bs e5 (bs rfl (lets fun y ey => ?_))))))), ⟨(sJ.1.keepN k25).keep k26 fun b hb hu => by have := haJ b hb; omega, sJ.2⟩, hlJ, by simp at hm; omega, fun b hb => by have := haJ b hb; omega, kFresh (kN kJ k25) k26 fun i hi => by omega⟩
  have ey2 : y = h7 := by rw [ey]; exact hh7
  subst ey2
  refine bs e8 (bS rfl (bj _ eJ (bs rfl (bS rfl (lets fun y ey => ?_)))))
  have ey2 : y = h25 := by rw [ey]; exact hh25
  subst ey2
  exact bs e26 (bI rfl rfl)

theorem Sl.cut {h : AH} {a : Option Addr} {vs : List Value} (x : Sl h a vs) {i j : Nat} (hij : i ≤ j) (hj : j ≤ vs.length) : Sl h (shiftA a i) ((vs.drop i).take (j - i)) := by
  rcases x with h | ⟨ad, k, h1, h2, h3, h4⟩
  · subst h; exact .inl (by simp)
  · refine .inr ⟨⟨ad.block, ad.off + i, none⟩, k, by rw [h1]; rfl, h2, by simp; omega, fun q v hq => ?_⟩
    have hlt : q < j - i := by
      have := (List.getElem?_eq_some_iff.1 hq).1
      simp at this
      omega
    rw [List.getElem?_take_of_lt hlt, List.getElem?_drop] at hq
    have := h4 _ _ hq
    rw [← this]
    congr 1
    simp only
    omega
theorem iv_cut (k : IntKind) (xs : List Int) (i j : Nat) : ((iv k xs).drop i).take j = iv k ((xs.drop i).take j) := by simp [iv, List.map_drop, List.map_take]

theorem sameBytes_loop {base : Nat} {h : AH} {a b : Option Addr} {xs : List Int} (hx : Sl h a (iv .u8 xs)) (hy : Sl h b (iv .u8 xs)) (hn : xs.length ≤ 140737488355328) : ∀ (d i : Nat), i + d = xs.length →
    loopL (B38_0 base) [some (.slice a xs.length xs.length), some (.slice b xs.length xs.length), some (.int .i64 (i : Int))] h = some (2, [], h) := by
  intro d
  induction d with
  | zero =>
    intro i hi
    refine loop_off (by decide) ?_
    rw [B38_0_eq]
    exact ifF (by simp; omega) rfl
  | succ d ih =>
    intro i hi
    have hlt : i < xs.length := by omega
    obtain ⟨ad, rfl, g⟩ := hx.int hlt
    obtain ⟨bd, rfl, g2⟩ := hy.int hlt
    refine loop_on ?_ (ih (i + 1) (by omega))
    rw [B38_0_eq]
    refine ifT (decide_eq_true (by omega)) (ifT ⟨by omega, by omega⟩ (bs rfl ?_))
    simp only [Int.toNat_natCast, Nat.mul_one]
    refine bs g (ifT ⟨by omega, by omega⟩ (bs rfl (bs g2 (ifF (by simp) ?_))))
    rw [w64i (by omega) (by omega), show ((i : Int) + 1) = ((i + 1 : Nat) : Int) from by omega]
theorem sameBytes_run {base : Nat} {h : AH} {a b : Option Addr} {xs : List Int} (hx : Sl h a (iv .u8 xs)) (hy : Sl h b (iv .u8 xs)) (hn : xs.length ≤ 140737488355328) :
    run (Et base) 38 [.slice a xs.length xs.length, .slice b xs.length xs.length] h = some (.bool true, h) := by
  have e := sameBytes_loop (base := base) hx hy hn xs.length 0 (by omega)
  rw [show ((0 : Nat) : Int) = 0 from rfl] at e
  exact r38 (ifF (by simp) (bs e (ifF (by simp) (ifT rfl rfl))))

theorem nums_all {base : Nat} {h : AH} {a : Option Addr} {zs : List Int} (s : Sl h a (iv .u8 zs)) (hb : h.length = base) :
    ∃ h', run (Et base) 7 [.slice a zs.length zs.length] h = some (.bool true, h') := by
  have hz : zs = [] ∨ ∀ b, blk a b → b < base := by
    rcases sl_below s with e | e
    · exact .inl (by cases zs with | nil => rfl | cons x r => simp [iv] at e)
    · exact .inr fun b hb' => by have := e b hb'; omega
  have big : run (Et base) 32 [.slice a zs.length zs.length] h = some (.bool (decide (((zs.length : Nat) : Int) > (1048576 : Int))), h) := r32 rfl
  by_cases c : ((zs.length : Nat) : Int) > (1048576 : Int)
  · exact ⟨h, r7 (bs big (bB rfl (ifT (decide_eq_true c) rfl)))⟩
  obtain ⟨a3, xs, n, h3, e3, s3, hl3, ha3, k3⟩ := drawPutNum_run (base := base) s hz (by omega) (by omega)
  have n3 := k3.1
  obtain ⟨a7, h7, e7, o7, k7, b7⟩ := implPutNum_run (base := base) (v := n) s3.1.sl (by omega) (by omega)
  have n7 := k7.1
  have hel := encN_len n
  have hep := encN_pos n
  have hby : ∀ x ∈ xs ++ encN n, 0 ≤ x ∧ x ≤ 255 := fun x hx => by
    rcases List.mem_append.1 hx with hx | hx
    · exact s3.2 x hx
    · exact encN_bytes n x hx
  have hlen : (xs ++ encN n).length = xs.length + (encN n).length := by simp
  have e9 := implGet_run (base := base) (at_ := ((xs.length : Nat) : Int)) o7.sl hby (by omega) (by omega)
  rw [gn_app, gn_enc] at e9
  simp only [Option.map_some, gnV] at e9
  have k07 := kN k3 k7
  -- cut
  have cutl : ((iv .u8 (xs ++ encN n)).drop 0).take ((xs.length + (encN n).length - 1) - 0) = iv .u8 (xs ++ (encN n).dropLast) := by
    rw [iv_cut, List.drop_zero]
    congr 1
    rw [show xs.length + (encN n).length - 1 - 0 = xs.length + ((encN n).length - 1) from by omega, List.take_append, List.take_of_length_le (by omega), Nat.add_sub_cancel_left, List.dropLast_eq_take]
  have scut := o7.sl.cut (i := 0) (j := xs.length + (encN n).length - 1) (by omega) (by simp)
  rw [cutl] at scut
  have hcl : (xs ++ (encN n).dropLast).length = xs.length + (encN n).length - 1 := by simp; omega
  have e30 := implGet_run (base := base) (at_ := ((xs.length : Nat) : Int)) scut (fun x hx => by
    rcases List.mem_append.1 hx with hx | hx
    · exact s3.2 x hx
    · exact encN_bytes n x (List.dropLast_subset _ hx)) (by omega) (by omega)
  rw [gn_app, gn_cut] at e30
  simp only [Option.map_none, gnV] at e30
  obtain ⟨a35, ys, at_, h35, e35, s35, hl35, hat, ha35, k35⟩ := drawGetNum_run (base := base) (s.keepN k07) hz (by omega) (by omega)
  have n35 := k35.1
  have e39 := implGet_run (base := base) (at_ := at_) s35.1.sl s35.2 (by omega) hat
  have e44 := specGet_run (base := base) (at_ := at_) s35.1.sl s35.2 (by omega) hat
  have start : ∀ (z1 z2 : Int) (bb : Bool) r, gnV (gnL ys at_ 4 0 0) = .tuple #[.int .i64 z1, .int .i64 z2, .bool bb] → ((if (!bb) = true then
      some (.bool true, h35)
      else
      (some (h35 ++ [some ⟨[], 5⟩])).bind fun h49 =>
      (run (Et base) 20 [(.slice (some ⟨(List.length h35), 0, none⟩) 0 0), (.int .i64 z1)] h49).bind fun r50 =>
      ((some r50.1).bind getS).bind fun l51 =>
      (gate (neA a35 (List.length h35))
      ((gate (sameA h49 r50.2 a35 0)
      ((if 0 ≤ at_ ∧ at_ ≤ z2 ∧ z2 ≤ ((ys.length : Nat) : Int) ∧ okTy base r50.2 a35 5 (Int.toNat at_) = true then
      (run (Et base) 38 [(.slice l51.1 l51.2 l51.2), (.slice (shiftA a35 (Int.toNat at_ * 1)) (Int.toNat z2 - Int.toNat at_) (Int.toNat z2 - Int.toNat at_))] r50.2).bind fun r52 =>
      ((some r52.1).bind getB).bind fun b53 =>
      some (.bool b53, r52.2)
      else none)))))) : Option (Value × AH)) = some r → run (Et base) 7 [.slice a zs.length zs.length] h = some r := by
    intro z1 z2 bb r hv hr
    rw [hv] at e39 e44
    refine r7 (bs big (bB rfl (ifF (by simpa using c) (bs e3 (bs rfl (bS rfl (bI rfl (bs e7 (bS rfl (bs e9 (bs rfl (bI rfl (bI rfl (bB rfl ?_))))))))))))))
    refine bj (q := ([some (.slice a zs.length zs.length), some (.slice a3 xs.length xs.length), some (.int .i64 (if n > 1000000 then 1000000 else n)), some (.slice a7 (xs ++ encN n).length (xs ++ encN n).length), some (.int .i64 (cl_ n)), some (.int .i64 (((xs.length : Nat) : Int) + (((encN n).length : Nat) : Int))), some (.bool true)], h7)) ?_ ?_
    · by_cases c1 : n > 1000000
      · exact ifT (decide_eq_true c1) (by rw [if_pos c1])
      · exact ifF (by simpa using c1) (by rw [if_neg c1])
    refine bS rfl (bS rfl (bI rfl (bS rfl (bI rfl (bI rfl (bB rfl ?_))))))
    refine bj (q := ([some (.slice a zs.length zs.length), some (.slice a3 xs.length xs.length), some (.int .i64 (cl_ n)), some (.slice a7 (xs ++ encN n).length (xs ++ encN n).length), some (.int .i64 (cl_ n)), some (.int .i64 (((xs.length : Nat) : Int) + (((encN n).length : Nat) : Int))), some (.bool true)], h7)) ?_ ?_
    · by_cases c1 : n > 1000000
      · rw [if_pos c1]
        have : cl_ n = 1000000 := by unfold cl_; rw [if_pos c1]
        rw [this]
        exact ifF (by decide) rfl
      · rw [if_neg c1]
        by_cases c2 : n < -1000000
        · have : cl_ n = -1000000 := by unfold cl_; rw [if_neg c1, if_pos c2]
          rw [this]
          exact ifT (decide_eq_true c2) rfl
        · have : cl_ n = n := by unfold cl_; rw [if_neg c1, if_neg c2]
          rw [this]
          exact ifF (by simpa using c2) rfl
    refine bS rfl (bS rfl (bI rfl (bS rfl (bI rfl (bI rfl (bB rfl ?_))))))
    have w : IntKind.wrap .i64 ((((xs ++ encN n).length : Nat) : Int) - (1 : Int)) = ((xs.length + (encN n).length - 1 : Nat) : Int) := by rw [w64i (by omega) (by omega)]; omega
    rw [w]
    refine ifT ⟨by omega, by omega, by omega, rfl⟩ ?_
    simp only [Int.toNat_natCast, show Int.toNat (0 : Int) = 0 from rfl, Nat.zero_mul, Nat.sub_zero]
    rw [← hcl]
    refine bs e30 (bs rfl (bI rfl (bI rfl (bB rfl (bs e35 (bs rfl (bS rfl (bI rfl (bs e39 (bs rfl (bI rfl (bI rfl (bB rfl (bs e44 (bs rfl (bI rfl (bI rfl (bB rfl ?_))))))))))))))))))
    refine ifT (by simp) (ifT (by simp) (ifT (by rw [hlen]; simp) (ifT (by simp) (ifT (by simp) ?_))))
    exact hr
  cases hg : gnL ys at_ 4 0 0 with
  | none =>
    rw [hg] at start
    exact ⟨h35, start 0 0 false _ rfl (ifT rfl rfl)⟩
  | some p =>
    obtain ⟨y, e⟩ := p
    rw [hg] at start
    have hrange : 0 ≤ at_ ∧ at_ ≤ ((ys.length : Nat) : Int) := by
      by_cases c1 : at_ < 0 ∨ ((ys.length : Nat) : Int) ≤ at_
      · rw [gn_none _ c1] at hg; cases hg
      · omega
    rw [gn_end ys hrange.1 hrange.2] at hg
    cases hg2 : gnL (ys.drop at_.toNat) 0 4 0 0 with
    | none => rw [hg2] at hg; cases hg
    | some p2 =>
      obtain ⟨y2, e2⟩ := p2
      rw [hg2] at hg
      simp only [Option.map_some] at hg
      injection hg with hg
      injection hg with hg1 hg3
      subst hg1
      obtain ⟨d0, d1, d2⟩ := gn_dec (fun x hx => s35.2 x (List.mem_of_mem_drop hx)) hg2
      rw [List.length_drop] at d1
      have hlen2 : ((ys.drop at_.toNat).take e2.toNat).length = e2.toNat := by simp; omega
      obtain ⟨o49, k49, q49⟩ := box_own (base := base) (t := 5) (h := h35) (cs := []) (by omega) rfl
      generalize hh49 : h35 ++ [some (⟨[], 5⟩ : Blk)] = h49 at o49 k49 q49
      obtain ⟨a51, h50, e50, o50, k50, b50⟩ := implPutNum_run (base := base) (xs := []) (v := y2) (a := at0 h35.length) (h := h49) (.inl rfl) (by simp) (by omega)
      simp only [List.nil_append] at e50 o50
      rw [d2, hlen2] at e50
      rw [d2] at o50
      have k3550 := kN k49 k50
      have o35 := s35.1.keepN k3550
      have hcutS := o35.sl.cut (i := at_.toNat) (j := e.toNat) (by omega) (by simp; omega)
      rw [iv_cut, show e.toNat - at_.toNat = e2.toNat from by omega] at hcutS
      have same := sameBytes_run (base := base) o50.sl hcutS (by rw [hlen2]; omega)
      rw [hlen2] at same
      refine ⟨h50, start y2 e true _ rfl (ifF (by decide) (lets fun yy ey => ?_))⟩
      have ey2 : yy = h49 := by rw [ey]; exact hh49
      subst ey2
      refine bs e50 (bS rfl ?_)
      rw [gate_pos (by
        intro ad hx
        have := (s35.1.lt (b := ad.block) ⟨ad, hx, rfl⟩).2
        omega)]
      rw [gate_pos (by
        intro ad hx
        have hlt := (s35.1.lt (b := ad.block) ⟨ad, hx, rfl⟩).2
        refine ⟨fun j hj => by omega, ?_⟩
        rw [k50.2 ad.block (by omega) (fun h => h)])]
      refine ifT ⟨hrange.1, by omega, by omega, ?_⟩ ?_
      · rcases o35 with ⟨e0, _⟩ | ⟨ad, k, e0, hbb, hg0, ht, _⟩
        · rw [e0]; simp [okTy]
        · rw [e0]
          unfold okTy
          simp only [hg0]
          rw [ht]
          simp
      · rw [Nat.mul_one, show Int.toNat e - Int.toNat at_ = e2.toNat from by omega]
        exact bs same (bB rfl rfl)
end Go.Proofs.Ytgigdaijailfkaa.Am
