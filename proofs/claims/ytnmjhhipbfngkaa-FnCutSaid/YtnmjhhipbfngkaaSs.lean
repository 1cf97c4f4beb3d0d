/- Code that is drawn is right.
Conditions: none. -/
import Derived.Test.YtnmjhhipbfngkaaSr
set_option linter.unusedSimpArgs false
set_option linter.unusedVariables false
namespace Go.Proofs.Ytnmjhhipbfngkaa.Am
open Go Go.RowKit

theorem regB_of {s : ByteArray} {c z : Int} (h0 : 0 ≤ z) (h1 : z < 8) : regB s c (if hasL s c = true then z else 0) = true := by
  unfold regB
  cases h : hasL s c with
  | false => rfl
  | true =>
    simp only [Bool.not_true, if_true, inB, Bool.and_eq_true, decide_eq_true_eq, Bool.false_eq_true, if_false]
    omega
theorem strs3_ok {s : ByteArray} (h : s ∈ ([⟨#[111, 107]⟩, ⟨#[97]⟩, ⟨#[98, 97, 100]⟩] : List ByteArray)) : atomOk s = true ∧ s.size ≤ 12 := by
  have : ∀ s ∈ ([⟨#[111, 107]⟩, ⟨#[97]⟩, ⟨#[98, 97, 100]⟩] : List ByteArray), atomOk s = true ∧ s.size ≤ 12 := by
    simp only [List.forall_mem_cons]
    exact ⟨⟨by decide, by decide⟩, ⟨by decide, by decide⟩, ⟨by decide, by decide⟩, fun _ h => nomatch h⟩
  exact this s h

theorem l8Draw_run {base cb : Nat} {h : AH} {n : Int} (x : CurR base cb h) (hn0 : 1 ≤ n) (hn : n ≤ 200) : ∃ (y : In) (h' : AH), run (Et base) 127 [.pointer (at0 cb), .int .i64 n] h = some (.agg (inV y).toArray, h') ∧ specB y n = true ∧ CurR base cb h' ∧ KB (· = cb) h h' := by
  have hlt := x.lt
  obtain ⟨o1, k1, q1⟩ := box_own (base := base) (t := 116) (h := h) (cs := inV ⟨0, 0, 0, 0, 0, ⟨#[]⟩⟩) (by omega) rfl
  generalize hh1 : h ++ [some (⟨inV ⟨0, 0, 0, 0, 0, ⟨#[]⟩⟩, 116⟩ : Blk)] = h1 at o1 k1 q1
  obtain ⟨z, h2, e2, z0, z1, _, x2, k2, l2⟩ := l1Below_run (n := 20) (x.keepN k1) (by omega)
  have z1 := z1 (by omega)
  obtain ⟨op, hop⟩ : ∃ op : Int, op = 1 + z := ⟨_, rfl⟩
  have hw : IntKind.wrap .i64 ((1 : Int) + z) = op := by rw [hop]; exact w64i (by omega) (by omega)
  obtain ⟨o4, k4, q4⟩ := box_own (base := base) (t := 116) (h := h2) (cs := inV ⟨0, 0, 0, 0, 0, ⟨#[]⟩⟩) (by omega) rfl
  generalize hh4 : h2 ++ [some (⟨inV ⟨0, 0, 0, 0, 0, ⟨#[]⟩⟩, 116⟩ : Blk)] = h4 at o4 k4 q4
  obtain ⟨h5, e5, o5, k5, l5⟩ := o4.wr0 (i := 0) (new := inV ⟨op, 0, 0, 0, 0, ⟨#[]⟩⟩) (by simp) (by simp)
  have hz5 : setAt (inV ⟨0, 0, 0, 0, 0, ⟨#[]⟩⟩) 0 (inV ⟨op, 0, 0, 0, 0, ⟨#[]⟩⟩) = inV ⟨op, 0, 0, 0, 0, ⟨#[]⟩⟩ := rfl
  rw [hz5] at o5
  have k25 : KB NoB h2 h5 := kFresh k4 k5 fun b hb => by omega
  obtain ⟨o6, k6, q6⟩ := box_own (base := base) (t := 9) (h := h5) (cs := usesV) (by omega) rfl
  generalize hh6 : h5 ++ [some (⟨usesV, 9⟩ : Blk)] = h6 at o6 k6 q6
  have e6 : run (Et base) 141 [] h5 = some (.slice (at0 h5.length) 20 20, h6) := r141 (lets fun y ey => by
    have : y = h6 := ey.trans hh6
    rw [this])
  have gu : Am.cell h6 h5.length (0 + Int.toNat (op - 1) * 1) = some (.string (shp op)) := by
    rw [Nat.zero_add, Nat.mul_one]
    exact o6.at0 (uses_at (op := op) (by omega))
  have hus : (shp op).size ≤ 9223372036854775807 := by
    rcases op_cases (op := op) (by omega) with e | e | e | e | e | e | e | e | e | e | e | e | e | e | e | e | e | e | e | e <;> rw [e] <;> decide
  -- what stands where
  have st : ∀ {hh : AH} {y : In} (j : Nat) (c : Int) (f : Int → In) (L : Slots), Own base 116 hh (at0 h2.length) (inV y) → Own base 116 hh (at0 h.length) (inV ⟨0, 0, 0, 0, 0, ⟨#[]⟩⟩) → CurR base cb hh → KB (· = cb) h hh → (∀ z, setAt (inV y) j [.int .i64 z] = inV (f z)) → j < 6 →
      ∃ hh' z, 0 ≤ z ∧ z < 4 ∧ ((run (Et base) 151 [(.string (shp op)), (.int .u8 c)] hh).bind fun r12 =>
        ((some r12.1).bind getB).bind fun b13 =>
        (if b13 = true then
        (run (Et base) 126 [(.pointer (at0 cb)), (.int .i64 (4 : Int))] r12.2).bind fun r14 =>
        ((some r14.1).bind (getI .i64)).bind fun n15 =>
        (Am.wr base r14.2 h2.length j [(.int .i64 n15)]).bind fun h16 =>
        some (Sum.inl (L, h16))
        else
        some (Sum.inl (L, r12.2))) : Option (Sum (Slots × AH) (Value × AH))) = some (Sum.inl (L, hh')) ∧ Own base 116 hh' (at0 h2.length) (inV (if hasL (shp op) c = true then f z else y)) ∧ Own base 116 hh' (at0 h.length) (inV ⟨0, 0, 0, 0, 0, ⟨#[]⟩⟩) ∧ CurR base cb hh' ∧ KB (· = cb) h hh' := by
    intro hh y j c f L oy or_ xx kk hf hj
    have el := l8Letter_run (base := base) (h := hh) (s := shp op) (c := c) hus
    cases hb : hasL (shp op) c with
    | false =>
      rw [hb] at el
      exact ⟨hh, 0, by omega, by omega, bs el (bB rfl (ifF (by decide) rfl)), by rw [if_neg (by decide)]; exact oy, or_, xx, kk⟩
    | true =>
      rw [hb] at el
      obtain ⟨z, h3, e3, z0, z1, _, x3, k3, l3⟩ := l1Below_run (n := 4) xx (by omega)
      have z1 := z1 (by omega)
      obtain ⟨h4', e4', o4', k4', l4'⟩ := (oy.keep k3 fun b hb hk => by rw [blk_at0] at hb; omega).wr0 (i := j) (new := [.int .i64 z]) (by simp; omega) (by simp)
      rw [hf] at o4'
      exact ⟨h4', z, z0, z1, bs el (bB rfl (ifT rfl (bs e3 (bI rfl (bs e4' rfl))))), by rw [if_pos rfl]; exact o4', (or_.keep k3 fun b hb hk => by rw [blk_at0] at hb; omega).keep k4' fun b hb hk => by rw [blk_at0] at hb; omega, x3.keep k4' fun b hb => by omega, kCF (kC kk k3) k4' fun b hb => by omega⟩
  have k05 : KB (· = cb) h h5 := KB.trans (kNB k1 k2) k25 (fun _ _ h => h) (fun _ _ h => h.elim)
  have k06 : KB (· = cb) h h6 := KB.trans k05 k6 (fun _ _ h => h) (fun _ _ h => h.elim)
  have or6 := (((o1.keep k2 fun b hb hk => by rw [blk_at0] at hb; omega).keepN k25).keepN k6)
  obtain ⟨h11, za, a0, a1, ea, oa, ra, xa, ka⟩ := st (y := ⟨op, 0, 0, 0, 0, ⟨#[]⟩⟩) 1 65 (fun z => ⟨op, z, 0, 0, 0, ⟨#[]⟩⟩) [some (.pointer (at0 cb)), some (.int .i64 n), some (.pointer (at0 h.length)), some (.pointer (at0 h2.length)), some (.string (shp op))] (o5.keepN k6) or6 ((x2.keepN k25).keepN k6) k06 (fun z => rfl) (by decide)
  have oa' : Own base 116 h11 (at0 h2.length) (inV ⟨op, if hasL (shp op) 65 = true then za else 0, 0, 0, 0, ⟨#[]⟩⟩) := by
    cases hb : hasL (shp op) 65 <;> rw [hb] at oa <;> exact oa
  have rA := regB_of (s := shp op) (c := 65) a0 (by omega : za < 8)
  have rA2 : 0 ≤ (if hasL (shp op) 65 = true then za else 0) ∧ (if hasL (shp op) 65 = true then za else 0) < 4 := by split <;> omega
  generalize (if hasL (shp op) 65 = true then za else 0) = A at oa' rA rA2
  obtain ⟨h22, zb, b0, b1, eb, ob, rb, xb, kb⟩ := st (y := ⟨op, A, 0, 0, 0, ⟨#[]⟩⟩) 2 66 (fun z => ⟨op, A, z, 0, 0, ⟨#[]⟩⟩) [some (.pointer (at0 cb)), some (.int .i64 n), some (.pointer (at0 h.length)), some (.pointer (at0 h2.length)), some (.string (shp op))] oa' ra xa ka (fun z => rfl) (by decide)
  have ob' : Own base 116 h22 (at0 h2.length) (inV ⟨op, A, if hasL (shp op) 66 = true then zb else 0, 0, 0, ⟨#[]⟩⟩) := by
    cases hb : hasL (shp op) 66 <;> rw [hb] at ob <;> exact ob
  have rB := regB_of (s := shp op) (c := 66) b0 (by omega : zb < 8)
  have rB2 : 0 ≤ (if hasL (shp op) 66 = true then zb else 0) ∧ (if hasL (shp op) 66 = true then zb else 0) < 4 := by split <;> omega
  generalize (if hasL (shp op) 66 = true then zb else 0) = B at ob' rB rB2
  obtain ⟨h33, zc, c0, c1, ec, oc, rc, xc, kc⟩ := st (y := ⟨op, A, B, 0, 0, ⟨#[]⟩⟩) 3 67 (fun z => ⟨op, A, B, z, 0, ⟨#[]⟩⟩) [some (.pointer (at0 cb)), some (.int .i64 n), some (.pointer (at0 h.length)), some (.pointer (at0 h2.length))] ob' rb xb kb (fun z => rfl) (by decide)
  have oc' : Own base 116 h33 (at0 h2.length) (inV ⟨op, A, B, if hasL (shp op) 67 = true then zc else 0, 0, ⟨#[]⟩⟩) := by
    cases hb : hasL (shp op) 67 <;> rw [hb] at oc <;> exact oc
  have rC := regB_of (s := shp op) (c := 67) c0 (by omega : zc < 8)
  generalize (if hasL (shp op) 67 = true then zc else 0) = C at oc' rC
  have start : ∀ {q : Slots × AH} {r : Value × AH}, (((((Am.cell h33 h2.length (0 + 0)).bind (getI .i64)).bind fun n44 =>
      (if (n44 == (1 : Int)) = true then
      (some (h33 ++ [some ⟨[(.int .i64 (0 : Int)), (.int .i64 (1 : Int)), (.int .i64 (-1 : Int)), (.int .i64 (1000000 : Int))], 3⟩])).bind fun h45 =>
      (run (Et base) 107 [(.pointer (at0 cb)), (.slice (some ⟨(List.length h33), 0, none⟩) 4 4)] h45).bind fun r46 =>
      ((some r46.1).bind (getI .i64)).bind fun n47 =>
      (Am.wr base r46.2 h2.length (0 + 4) [(.int .i64 n47)]).bind fun h48 =>
      some (.inl ([some (.pointer (some ⟨h.length, 0, none⟩)), some (.pointer (some ⟨h2.length, 0, none⟩))], h48))
      else
      (if (n44 == (2 : Int)) = true then
      (some (h33 ++ [some ⟨[(.string (⟨#[111, 107]⟩ : ByteArray)), (.string (⟨#[97]⟩ : ByteArray)), (.string (⟨#[98, 97, 100]⟩ : ByteArray))], 9⟩])).bind fun h49 =>
      (run (Et base) 152 [(.pointer (at0 cb)), (.slice (some ⟨(List.length h33), 0, none⟩) 3 3)] h49).bind fun r50 =>
      ((some r50.1).bind getStr).bind fun s51 =>
      (Am.wr base r50.2 h2.length (0 + 5) [(.string s51)]).bind fun h52 =>
      some (.inl ([some (.pointer (some ⟨h.length, 0, none⟩)), some (.pointer (some ⟨h2.length, 0, none⟩))], h52))
      else
      ((if (n44 == (4 : Int)) = true then
      some (.inl ([some (.pointer (at0 cb)), some (.int .i64 n), some (.pointer (some ⟨h.length, 0, none⟩)), some (.pointer (some ⟨h2.length, 0, none⟩)), some (.int .i64 n44), some (.bool (n44 == (4 : Int)))], h33))
      else
      some (.inl ([some (.pointer (at0 cb)), some (.int .i64 n), some (.pointer (some ⟨h.length, 0, none⟩)), some (.pointer (some ⟨h2.length, 0, none⟩)), some (.int .i64 n44), some (.bool (n44 == (6 : Int)))], h33))) : Option (Sum (Slots × AH) (Sum (Slots × AH) (Value × AH)))).bind fun j53 => joinK j53 fun j53 =>
      ((sget j53.1 0).bind getP).bind fun p54 =>
      ((sget (j53.1.tail) 0).bind (getI .i64)).bind fun n55 =>
      ((sget (j53.1.tail.tail) 0).bind getA).bind fun d56 =>
      ((sget (j53.1.tail.tail.tail) 0).bind getA).bind fun d57 =>
      ((sget (j53.1.tail.tail.tail.tail) 0).bind (getI .i64)).bind fun n58 =>
      ((sget (j53.1.tail.tail.tail.tail.tail) 0).bind getB).bind fun b59 =>
      (if b59 = true then
      (run (Et base) 126 [(.pointer p54), (.int .i64 (4 : Int))] j53.2).bind fun r60 =>
      ((some r60.1).bind (getI .i64)).bind fun n61 =>
      (Am.wr base r60.2 d57.block (d57.off + 4) [(.int .i64 n61)]).bind fun h62 =>
      some (.inl ([some (.pointer (some d56)), some (.pointer (some d57))], h62))
      else
      (if (n58 == (11 : Int)) = true then
      (run (Et base) 126 [(.pointer p54), (.int .i64 (6 : Int))] j53.2).bind fun r63 =>
      ((some r63.1).bind (getI .i64)).bind fun n64 =>
      (Am.wr base r63.2 d57.block (d57.off + 2) [(.int .i64 (IntKind.wrap .i64 ((1 : Int) + n64)))]).bind fun h65 =>
      (run (Et base) 126 [(.pointer p54), (.int .i64 n55)] h65).bind fun r66 =>
      ((some r66.1).bind (getI .i64)).bind fun n67 =>
      (Am.wr base r66.2 d57.block (d57.off + 4) [(.int .i64 n67)]).bind fun h68 =>
      some (.inl ([some (.pointer (some d56)), some (.pointer (some d57))], h68))
      else
      ((if (n58 == (10 : Int)) = true then
      some (.inl ([some (.pointer p54), some (.int .i64 n55), some (.pointer (some d56)), some (.pointer (some d57)), some (.bool (n58 == (10 : Int)))], j53.2))
      else
      (if (n58 == (12 : Int)) = true then
      some (.inl ([some (.pointer p54), some (.int .i64 n55), some (.pointer (some d56)), some (.pointer (some d57)), some (.bool (n58 == (12 : Int)))], j53.2))
      else
      some (.inl ([some (.pointer p54), some (.int .i64 n55), some (.pointer (some d56)), some (.pointer (some d57)), some (.bool (n58 == (16 : Int)))], j53.2)))) : Option (Sum (Slots × AH) (Sum (Slots × AH) (Value × AH)))).bind fun j69 => joinK j69 fun j69 =>
      ((sget j69.1 0).bind getP).bind fun p70 =>
      ((sget (j69.1.tail) 0).bind (getI .i64)).bind fun n71 =>
      ((sget (j69.1.tail.tail) 0).bind getA).bind fun d72 =>
      ((sget (j69.1.tail.tail.tail) 0).bind getA).bind fun d73 =>
      ((sget (j69.1.tail.tail.tail.tail) 0).bind getB).bind fun b74 =>
      (if b74 = true then
      (run (Et base) 126 [(.pointer p70), (.int .i64 n71)] j69.2).bind fun r75 =>
      ((some r75.1).bind (getI .i64)).bind fun n76 =>
      (Am.wr base r75.2 d73.block (d73.off + 4) [(.int .i64 n76)]).bind fun h77 =>
      some (.inl ([some (.pointer (some d72)), some (.pointer (some d73))], h77))
      else
      some (.inl ([some (.pointer (some d72)), some (.pointer (some d73))], j69.2)))))))) : Option (Sum (Slots × AH) (Value × AH))) = some (Sum.inl q)) → ((((sget q.1 0).bind getA).bind fun d78 =>
      ((sget (q.1.tail) 0).bind getA).bind fun d79 =>
      ((Am.cell q.2 d79.block d79.off).bind (getI .i64)).bind fun n80 =>
      ((Am.cell q.2 d79.block (d79.off + 1)).bind (getI .i64)).bind fun n81 =>
      ((Am.cell q.2 d79.block ((d79.off + 1) + 1)).bind (getI .i64)).bind fun n82 =>
      ((Am.cell q.2 d79.block (((d79.off + 1) + 1) + 1)).bind (getI .i64)).bind fun n83 =>
      ((Am.cell q.2 d79.block ((((d79.off + 1) + 1) + 1) + 1)).bind (getI .i64)).bind fun n84 =>
      ((Am.cell q.2 d79.block (((((d79.off + 1) + 1) + 1) + 1) + 1)).bind getStr).bind fun s85 =>
      (Am.wr base q.2 d78.block d78.off [(.int .i64 n80), (.int .i64 n81), (.int .i64 n82), (.int .i64 n83), (.int .i64 n84), (.string s85)]).bind fun h86 =>
      ((Am.cell h86 d78.block d78.off).bind (getI .i64)).bind fun n87 =>
      ((Am.cell h86 d78.block (d78.off + 1)).bind (getI .i64)).bind fun n88 =>
      ((Am.cell h86 d78.block ((d78.off + 1) + 1)).bind (getI .i64)).bind fun n89 =>
      ((Am.cell h86 d78.block (((d78.off + 1) + 1) + 1)).bind (getI .i64)).bind fun n90 =>
      ((Am.cell h86 d78.block ((((d78.off + 1) + 1) + 1) + 1)).bind (getI .i64)).bind fun n91 =>
      ((Am.cell h86 d78.block (((((d78.off + 1) + 1) + 1) + 1) + 1)).bind getStr).bind fun s92 =>
      some (Value.agg #[(.int .i64 n87), (.int .i64 n88), (.int .i64 n89), (.int .i64 n90), (.int .i64 n91), (.string s92)], h86)) = some r) → run (Et base) 127 [.pointer (at0 cb), .int .i64 n] h = some r := by
    intro q r hq hr
    refine r127 (lets fun y ey => ?_)
    rw [hh1] at ey
    subst ey
    refine bs e2 (bI rfl (lets fun y ey => ?_))
    rw [hh4] at ey
    subst ey
    rw [hw]
    refine bs e5 (bs e6 (bS rfl ?_))
    rw [gate_pos (same_keep k6 (o5.at0 (i := 0) rfl))]
    refine bI ((o5.keepN k6).at0 (i := 0) rfl) ?_
    rw [w64i (n := op - 1) (by omega) (by omega)]
    refine ifT ⟨by omega, by omega⟩ (bs rfl (bT gu ?_))
    refine bj _ ea (bs rfl (bI rfl (bs rfl (bs rfl (bT rfl ?_)))))
    refine bj _ eb (bs rfl (bI rfl (bs rfl (bs rfl (bT rfl ?_)))))
    refine bj _ ec (bs rfl (bI rfl (bs rfl (bs rfl ?_))))
    exact bj _ hq hr
  have fin : ∀ {hj : AH} {y : In} {S : Nat → Prop}, (((((Am.cell h33 h2.length (0 + 0)).bind (getI .i64)).bind fun n44 =>
      (if (n44 == (1 : Int)) = true then
      (some (h33 ++ [some ⟨[(.int .i64 (0 : Int)), (.int .i64 (1 : Int)), (.int .i64 (-1 : Int)), (.int .i64 (1000000 : Int))], 3⟩])).bind fun h45 =>
      (run (Et base) 107 [(.pointer (at0 cb)), (.slice (some ⟨(List.length h33), 0, none⟩) 4 4)] h45).bind fun r46 =>
      ((some r46.1).bind (getI .i64)).bind fun n47 =>
      (Am.wr base r46.2 h2.length (0 + 4) [(.int .i64 n47)]).bind fun h48 =>
      some (.inl ([some (.pointer (some ⟨h.length, 0, none⟩)), some (.pointer (some ⟨h2.length, 0, none⟩))], h48))
      else
      (if (n44 == (2 : Int)) = true then
      (some (h33 ++ [some ⟨[(.string (⟨#[111, 107]⟩ : ByteArray)), (.string (⟨#[97]⟩ : ByteArray)), (.string (⟨#[98, 97, 100]⟩ : ByteArray))], 9⟩])).bind fun h49 =>
      (run (Et base) 152 [(.pointer (at0 cb)), (.slice (some ⟨(List.length h33), 0, none⟩) 3 3)] h49).bind fun r50 =>
      ((some r50.1).bind getStr).bind fun s51 =>
      (Am.wr base r50.2 h2.length (0 + 5) [(.string s51)]).bind fun h52 =>
      some (.inl ([some (.pointer (some ⟨h.length, 0, none⟩)), some (.pointer (some ⟨h2.length, 0, none⟩))], h52))
      else
      ((if (n44 == (4 : Int)) = true then
      some (.inl ([some (.pointer (at0 cb)), some (.int .i64 n), some (.pointer (some ⟨h.length, 0, none⟩)), some (.pointer (some ⟨h2.length, 0, none⟩)), some (.int .i64 n44), some (.bool (n44 == (4 : Int)))], h33))
      else
      some (.inl ([some (.pointer (at0 cb)), some (.int .i64 n), some (.pointer (some ⟨h.length, 0, none⟩)), some (.pointer (some ⟨h2.length, 0, none⟩)), some (.int .i64 n44), some (.bool (n44 == (6 : Int)))], h33))) : Option (Sum (Slots × AH) (Sum (Slots × AH) (Value × AH)))).bind fun j53 => joinK j53 fun j53 =>
      ((sget j53.1 0).bind getP).bind fun p54 =>
      ((sget (j53.1.tail) 0).bind (getI .i64)).bind fun n55 =>
      ((sget (j53.1.tail.tail) 0).bind getA).bind fun d56 =>
      ((sget (j53.1.tail.tail.tail) 0).bind getA).bind fun d57 =>
      ((sget (j53.1.tail.tail.tail.tail) 0).bind (getI .i64)).bind fun n58 =>
      ((sget (j53.1.tail.tail.tail.tail.tail) 0).bind getB).bind fun b59 =>
      (if b59 = true then
      (run (Et base) 126 [(.pointer p54), (.int .i64 (4 : Int))] j53.2).bind fun r60 =>
      ((some r60.1).bind (getI .i64)).bind fun n61 =>
      (Am.wr base r60.2 d57.block (d57.off + 4) [(.int .i64 n61)]).bind fun h62 =>
      some (.inl ([some (.pointer (some d56)), some (.pointer (some d57))], h62))
      else
      (if (n58 == (11 : Int)) = true then
      (run (Et base) 126 [(.pointer p54), (.int .i64 (6 : Int))] j53.2).bind fun r63 =>
      ((some r63.1).bind (getI .i64)).bind fun n64 =>
      (Am.wr base r63.2 d57.block (d57.off + 2) [(.int .i64 (IntKind.wrap .i64 ((1 : Int) + n64)))]).bind fun h65 =>
      (run (Et base) 126 [(.pointer p54), (.int .i64 n55)] h65).bind fun r66 =>
      ((some r66.1).bind (getI .i64)).bind fun n67 =>
      (Am.wr base r66.2 d57.block (d57.off + 4) [(.int .i64 n67)]).bind fun h68 =>
      some (.inl ([some (.pointer (some d56)), some (.pointer (some d57))], h68))
      else
      ((if (n58 == (10 : Int)) = true then
      some (.inl ([some (.pointer p54), some (.int .i64 n55), some (.pointer (some d56)), some (.pointer (some d57)), some (.bool (n58 == (10 : Int)))], j53.2))
      else
      (if (n58 == (12 : Int)) = true then
      some (.inl ([some (.pointer p54), some (.int .i64 n55), some (.pointer (some d56)), some (.pointer (some d57)), some (.bool (n58 == (12 : Int)))], j53.2))
      else
      some (.inl ([some (.pointer p54), some (.int .i64 n55), some (.pointer (some d56)), some (.pointer (some d57)), some (.bool (n58 == (16 : Int)))], j53.2)))) : Option (Sum (Slots × AH) (Sum (Slots × AH) (Value × AH)))).bind fun j69 => joinK j69 fun j69 =>
      ((sget j69.1 0).bind getP).bind fun p70 =>
      ((sget (j69.1.tail) 0).bind (getI .i64)).bind fun n71 =>
      ((sget (j69.1.tail.tail) 0).bind getA).bind fun d72 =>
      ((sget (j69.1.tail.tail.tail) 0).bind getA).bind fun d73 =>
      ((sget (j69.1.tail.tail.tail.tail) 0).bind getB).bind fun b74 =>
      (if b74 = true then
      (run (Et base) 126 [(.pointer p70), (.int .i64 n71)] j69.2).bind fun r75 =>
      ((some r75.1).bind (getI .i64)).bind fun n76 =>
      (Am.wr base r75.2 d73.block (d73.off + 4) [(.int .i64 n76)]).bind fun h77 =>
      some (.inl ([some (.pointer (some d72)), some (.pointer (some d73))], h77))
      else
      some (.inl ([some (.pointer (some d72)), some (.pointer (some d73))], j69.2)))))))) : Option (Sum (Slots × AH) (Value × AH))) = some (Sum.inl ([some (.pointer (at0 h.length)), some (.pointer (at0 h2.length))], hj))) → Own base 116 hj (at0 h2.length) (inV y) → KB S h33 hj → (∀ b, S b → b = cb ∨ b = h2.length) → CurR base cb hj → specB y n = true → ∃ (y : In) (h' : AH), run (Et base) 127 [.pointer (at0 cb), .int .i64 n] h = some (.agg (inV y).toArray, h') ∧ specB y n = true ∧ CurR base cb h' ∧ KB (· = cb) h h' := by
    intro hj y S ej oj kj hS xj hy
    obtain ⟨h86, e86, o86, k86, l86⟩ := (rc.keep kj fun b hb hk => by rw [blk_at0] at hb; have := hS b hk; omega).wr0 (i := 0) (new := inV y) (by simp) (by simp)
    have hz86 : setAt (inV ⟨0, 0, 0, 0, 0, ⟨#[]⟩⟩) 0 (inV y) = inV y := rfl
    rw [hz86] at o86
    exact ⟨y, h86, start ej (bs rfl (bs rfl (qi oj (bs e86 (qi o86 rfl))))), hy, xj.keep k86 fun b hb => by omega, kCF (KB.trans kc kj (fun _ _ h => h) (fun b hb hk => by have := hS b hk; omega)) k86 fun b hb => by omega⟩
  have inN : inB n 1 200 = true := by simp only [inB, Bool.and_eq_true, decide_eq_true_eq]; omega
  have inO : inB op 1 20 = true := by simp only [inB, Bool.and_eq_true, decide_eq_true_eq]; omega
  have g0 := oc'.at0 (i := 0) rfl
  have w33 : ∀ b, blk (at0 h2.length) b → b ≠ cb := fun b hb => by rw [blk_at0] at hb; omega
  by_cases d1 : op = 1
  · obtain ⟨o45, k45, q45⟩ := box_own (base := base) (t := 3) (h := h33) (cs := iv .i64 [0, 1, -1, 1000000]) (by have := oc'.lt (blk_at0.2 rfl); omega) rfl
    generalize hh45 : h33 ++ [some (⟨iv .i64 [0, 1, -1, 1000000], 3⟩ : Blk)] = h45 at o45 k45 q45
    obtain ⟨v, h46, e46, hv, x46, k46, l46⟩ := l1Int_run (xc.keepN k45) o45.sl (fun b hb => by rw [blk_at0] at hb; have := xc.lt; omega) (by simp) (by simp)
    obtain ⟨h48, e48, o48, k48, l48⟩ := ((oc'.keepN k45).keep k46 fun b hb hk => w33 b hb hk).wr0 (i := 4) (new := [.int .i64 v]) (by simp) (by simp)
    have hz48 : setAt (inV ⟨op, A, B, C, 0, ⟨#[]⟩⟩) 4 [.int .i64 v] = inV ⟨op, A, B, C, v, ⟨#[]⟩⟩ := rfl
    rw [hz48] at o48
    refine fin (bI g0 (ifT (by simpa using d1) (lets fun y ey => ?_))) o48 (KB.trans (T := fun b => b = cb ∨ b = h2.length) (kNB k45 k46) k48 (fun _ _ h => .inl h) (fun _ _ h => .inr h)) (fun b h => h) (x46.keep k48 fun b hb => by omega) ?_
    · have ey2 : y = h45 := by rw [ey]; exact hh45
      subst ey2
      exact bs e46 (bI rfl (bs e48 rfl))
    · unfold specB
      simp only [inN, inO, rA, rC, rB, Bool.true_and]
      have hvb : inB v (-1000000) 1000000 = true := by
        simp only [List.mem_cons, List.not_mem_nil, or_false] at hv
        rcases hv with rfl | rfl | rfl | rfl <;> decide
      subst d1
      unfold numB
      simp [hvb, emp]
  by_cases d2 : op = 2
  · obtain ⟨o45, k45, q45⟩ := box_own (base := base) (t := 9) (h := h33) (cs := [⟨#[111, 107]⟩, ⟨#[97]⟩, ⟨#[98, 97, 100]⟩].map Value.string) (by have := oc'.lt (blk_at0.2 rfl); omega) rfl
    generalize hh45 : h33 ++ [some (⟨[⟨#[111, 107]⟩, ⟨#[97]⟩, ⟨#[98, 97, 100]⟩].map Value.string, 9⟩ : Blk)] = h45 at o45 k45 q45
    obtain ⟨v, h46, e46, hv, x46, k46, l46⟩ := l1Str_run (xc.keepN k45) o45.sl (fun b hb => by rw [blk_at0] at hb; have := xc.lt; omega) (by simp) (by simp)
    obtain ⟨h48, e48, o48, k48, l48⟩ := ((oc'.keepN k45).keep k46 fun b hb hk => w33 b hb hk).wr0 (i := 5) (new := [.string v]) (by simp) (by simp)
    have hz48 : setAt (inV ⟨op, A, B, C, 0, ⟨#[]⟩⟩) 5 [.string v] = inV ⟨op, A, B, C, 0, v⟩ := rfl
    rw [hz48] at o48
    refine fin (bI g0 (ifF (by simpa using d1) (ifT (by simpa using d2) (lets fun y ey => ?_)))) o48 (KB.trans (T := fun b => b = cb ∨ b = h2.length) (kNB k45 k46) k48 (fun _ _ h => .inl h) (fun _ _ h => .inr h)) (fun b h => h) (x46.keep k48 fun b hb => by omega) ?_
    · have ey2 : y = h45 := by rw [ey]; exact hh45
      subst ey2
      exact bs e46 (bT rfl (bs e48 rfl))
    · unfold specB
      simp only [inN, inO, rA, rC, rB, Bool.true_and]
      have hva := (strs3_ok hv).1
      subst d2
      unfold numB
      simp [hva]
  have pre : ∀ {X : Option (Sum (Slots × AH) (Value × AH))} {r : Sum (Slots × AH) (Value × AH)} {F : Int → Option (Sum (Slots × AH) (Value × AH))}, True := fun {_ _ _} => trivial
  have j53 : ((if (op == (4 : Int)) = true then
      some (Sum.inl ([some (.pointer (at0 cb)), some (.int .i64 n), some (.pointer (at0 h.length)), some (.pointer (at0 h2.length)), some (.int .i64 op), some (.bool (op == (4 : Int)))], h33))
      else
      some (.inl ([some (.pointer (at0 cb)), some (.int .i64 n), some (.pointer (at0 h.length)), some (.pointer (at0 h2.length)), some (.int .i64 op), some (.bool (op == (6 : Int)))], h33)) : Option (Sum (Slots × AH) (Sum (Slots × AH) (Value × AH))))) = some (.inl ([some (.pointer (at0 cb)), some (.int .i64 n), some (.pointer (at0 h.length)), some (.pointer (at0 h2.length)), some (.int .i64 op), some (.bool (op == (4 : Int) || op == (6 : Int)))], h33)) := by
    by_cases c : op = 4
    · refine ifT (by simpa using c) ?_
      rw [beq_iff_eq.2 c]
      rfl
    · refine ifF (by simpa using c) ?_
      rw [beq_eq_false_iff_ne.2 c]
      rfl
  have j69 : ((if (op == (10 : Int)) = true then
      some (Sum.inl ([some (.pointer (at0 cb)), some (.int .i64 n), some (.pointer (at0 h.length)), some (.pointer (at0 h2.length)), some (.bool (op == (10 : Int)))], h33))
      else
      (if (op == (12 : Int)) = true then
      some (.inl ([some (.pointer (at0 cb)), some (.int .i64 n), some (.pointer (at0 h.length)), some (.pointer (at0 h2.length)), some (.bool (op == (12 : Int)))], h33))
      else
      some (.inl ([some (.pointer (at0 cb)), some (.int .i64 n), some (.pointer (at0 h.length)), some (.pointer (at0 h2.length)), some (.bool (op == (16 : Int)))], h33))) : Option (Sum (Slots × AH) (Sum (Slots × AH) (Value × AH))))) = some (.inl ([some (.pointer (at0 cb)), some (.int .i64 n), some (.pointer (at0 h.length)), some (.pointer (at0 h2.length)), some (.bool (op == (10 : Int) || (op == (12 : Int) || op == (16 : Int))))], h33)) := by
    by_cases c : op = 10
    · refine ifT (by simpa using c) ?_
      rw [beq_iff_eq.2 c]
      rfl
    · refine ifF (by simpa using c) ?_
      rw [beq_eq_false_iff_ne.2 c]
      by_cases c2 : op = 12
      · refine ifT (by simpa using c2) ?_
        rw [beq_iff_eq.2 c2]
        rfl
      · refine ifF (by simpa using c2) ?_
        rw [beq_eq_false_iff_ne.2 c2]
        rfl
  by_cases d3 : (op == (4 : Int) || op == (6 : Int)) = true
  · obtain ⟨v, h60, e60, v0, v1, _, x60, k60, l60⟩ := l1Below_run (n := 4) xc (by omega)
    have v1 := v1 (by omega)
    obtain ⟨h62, e62, o62, k62, l62⟩ := (oc'.keep k60 fun b hb hk => w33 b hb hk).wr0 (i := 4) (new := [.int .i64 v]) (by simp) (by simp)
    have hz62 : setAt (inV ⟨op, A, B, C, 0, ⟨#[]⟩⟩) 4 [.int .i64 v] = inV ⟨op, A, B, C, v, ⟨#[]⟩⟩ := rfl
    rw [hz62] at o62
    rw [d3] at j53
    refine fin (bI g0 (ifF (by simpa using d1) (ifF (by simpa using d2) (bj _ j53 (bs rfl (bI rfl (bs rfl (bs rfl (bI rfl (bB rfl (ifT rfl (bs e60 (bI rfl (bs e62 rfl))))))))))))))  o62 (KB.trans (T := fun b => b = cb ∨ b = h2.length) k60 k62 (fun _ _ h => .inl h) (fun _ _ h => .inr h)) (fun b h => h) (x60.keep k62 fun b hb => by omega) ?_
    unfold specB
    simp only [inN, inO, rA, rC, rB, Bool.true_and]
    have n8 : inB v 0 8 = true := by simp only [inB, Bool.and_eq_true, decide_eq_true_eq]; omega
    have n7 : inB v 0 7 = true := by simp only [inB, Bool.and_eq_true, decide_eq_true_eq]; omega
    have hwv : IntKind.wrap .i64 (B + v) ≤ 8 := by rw [w64i (by omega) (by omega)]; omega
    simp only [Bool.or_eq_true, beq_iff_eq] at d3
    rcases d3 with d3 | d3 <;> subst d3 <;> unfold numB <;> simp [n8, n7, hwv, emp]
  have d3' : (op == (4 : Int) || op == (6 : Int)) = false := by simpa using d3
  rw [d3'] at j53
  simp only [Bool.or_eq_false_iff, beq_eq_false_iff_ne] at d3'
  by_cases d4 : op = 11
  · obtain ⟨v, h63, e63, v0, v1, _, x63, k63, l63⟩ := l1Below_run (n := 6) xc (by omega)
    have v1 := v1 (by omega)
    obtain ⟨h65, e65, o65, k65, l65⟩ := (oc'.keep k63 fun b hb hk => w33 b hb hk).wr0 (i := 2) (new := [.int .i64 (1 + v)]) (by simp) (by simp)
    have hz65 : setAt (inV ⟨op, A, B, C, 0, ⟨#[]⟩⟩) 2 [.int .i64 (1 + v)] = inV ⟨op, A, 1 + v, C, 0, ⟨#[]⟩⟩ := rfl
    rw [hz65] at o65
    obtain ⟨u, h66, e66, u0, u1, _, x66, k66, l66⟩ := l1Below_run (n := n) (x63.keep k65 fun b hb => by omega) (by omega)
    have u1 := u1 (by omega)
    obtain ⟨h68, e68, o68, k68, l68⟩ := (o65.keep k66 fun b hb hk => w33 b hb hk).wr0 (i := 4) (new := [.int .i64 u]) (by simp) (by simp)
    have hz68 : setAt (inV ⟨op, A, 1 + v, C, 0, ⟨#[]⟩⟩) 4 [.int .i64 u] = inV ⟨op, A, 1 + v, C, u, ⟨#[]⟩⟩ := rfl
    rw [hz68] at o68
    have kk : KB (fun b => b = cb ∨ b = h2.length) h33 h68 := KB.trans (KB.trans (T := fun b => b = cb ∨ b = h2.length) k63 k65 (fun _ _ h => .inl h) (fun _ _ h => .inr h)) (KB.trans (T := fun b => b = cb ∨ b = h2.length) k66 k68 (fun _ _ h => .inl h) (fun _ _ h => .inr h)) (fun _ _ h => h) (fun _ _ h => h)
    refine fin (bI g0 (ifF (by simpa using d1) (ifF (by simpa using d2) (bj _ j53 (bs rfl (bI rfl (bs rfl (bs rfl (bI rfl (bB rfl (ifF (by decide) (ifT (by simpa using d4) (bs e63 (bI rfl ?_))))))))))))))  o68 kk (fun b h => h) (x66.keep k68 fun b hb => by omega) ?_
    · rw [w64i (by omega) (by omega)]
      exact bs e65 (bs e66 (bI rfl (bs e68 rfl)))
    · unfold specB
      simp only [inN, inO, rA, rC, Bool.true_and]
      have n8 : inB (1 + v) 1 6 = true := by simp only [inB, Bool.and_eq_true, decide_eq_true_eq]; omega
      subst d4
      unfold numB
      simp [n8, emp, u0, u1]
  by_cases d5 : (op == (10 : Int) || (op == (12 : Int) || op == (16 : Int))) = true
  · obtain ⟨u, h66, e66, u0, u1, _, x66, k66, l66⟩ := l1Below_run (n := n) xc (by omega)
    have u1 := u1 (by omega)
    obtain ⟨h68, e68, o68, k68, l68⟩ := (oc'.keep k66 fun b hb hk => w33 b hb hk).wr0 (i := 4) (new := [.int .i64 u]) (by simp) (by simp)
    have hz68 : setAt (inV ⟨op, A, B, C, 0, ⟨#[]⟩⟩) 4 [.int .i64 u] = inV ⟨op, A, B, C, u, ⟨#[]⟩⟩ := rfl
    rw [hz68] at o68
    rw [d5] at j69
    refine fin (bI g0 (ifF (by simpa using d1) (ifF (by simpa using d2) (bj _ j53 (bs rfl (bI rfl (bs rfl (bs rfl (bI rfl (bB rfl (ifF (by decide) (ifF (by simpa using d4) (bj _ j69 (bs rfl (bI rfl (bs rfl (bs rfl (bB rfl (ifT rfl (bs e66 (bI rfl (bs e68 rfl)))))))))))))))))))))) o68 (KB.trans (T := fun b => b = cb ∨ b = h2.length) k66 k68 (fun _ _ h => .inl h) (fun _ _ h => .inr h)) (fun b h => h) (x66.keep k68 fun b hb => by omega) ?_
    unfold specB
    simp only [inN, inO, rA, rC, rB, Bool.true_and]
    simp only [Bool.or_eq_true, beq_iff_eq] at d5
    rcases d5 with d5 | d5 | d5 <;> subst d5 <;> unfold numB <;> simp [emp, u0, u1]
  · have d5' : (op == (10 : Int) || (op == (12 : Int) || op == (16 : Int))) = false := by simpa using d5
    rw [d5'] at j69
    refine fin (bI g0 (ifF (by simpa using d1) (ifF (by simpa using d2) (bj _ j53 (bs rfl (bI rfl (bs rfl (bs rfl (bI rfl (bB rfl (ifF (by decide) (ifF (by simpa using d4) (bj _ j69 (bs rfl (bI rfl (bs rfl (bs rfl (bB rfl (ifF (by decide) rfl))))))))))))))))))) oc' (KB.refl NoB h33) (fun b h => h.elim) xc ?_
    unfold specB
    simp only [inN, inO, rA, rC, rB, Bool.true_and]
    simp only [Bool.or_eq_false_iff, beq_eq_false_iff_ne] at d5'
    obtain ⟨d51, d52, d53⟩ := d5'
    obtain ⟨d31, d32⟩ := d3'
    unfold numB
    simp [d1, d2, d31, d32, d4, d51, d52, d53, emp]
end Go.Proofs.Ytnmjhhipbfngkaa.Am
