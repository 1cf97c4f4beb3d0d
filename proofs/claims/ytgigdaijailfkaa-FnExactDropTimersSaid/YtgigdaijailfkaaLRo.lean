/- The law on RootsOf holds of all cells.
Conditions: none. -/
import Derived.Test.YtgigdaijailfkaaRo
set_option linter.unusedSimpArgs false
set_option linter.unusedVariables false
namespace Go.Proofs.Ytgigdaijailfkaa.Am
open Go Go.RowKit

theorem eqCell_run {base : Nat} {h : AH} {p pc at_ : Int} {r b l r2 b2 l2 : Option Addr} {R B L : List Int} (hb : base ≤ h.length)
    (sr : Sl h r (iv .i64 R)) (sb : Sl h b (iv .i64 B)) (sl : Sl h l (iv .i64 L)) (sr2 : Sl h r2 (iv .i64 R)) (sb2 : Sl h b2 (iv .i64 B)) (sl2 : Sl h l2 (iv .i64 L)) (hR : R.length ≤ 1048576) (hB : B.length ≤ 1048576) (hL : L.length ≤ 1048576) :
    ∃ h', run (Et base) 28 [.agg (cellV p pc r b l R B L at_).toArray, .agg (cellV p pc r2 b2 l2 R B L at_).toArray] h = some (.bool true, h') ∧ KB NoB h h' := by
  obtain ⟨o1, k1, q1⟩ := box_own (base := base) (t := 35) (h := h) (cs := cellV p pc r b l R B L at_) hb rfl
  generalize hh1 : h ++ [some (⟨cellV p pc r b l R B L at_, 35⟩ : Blk)] = h1 at o1 k1 q1
  obtain ⟨o2, k2, q2⟩ := box_own (base := base) (t := 35) (h := h1) (cs := cellV p pc r2 b2 l2 R B L at_) (by omega) rfl
  generalize hh2 : h1 ++ [some (⟨cellV p pc r2 b2 l2 R B L at_, 35⟩ : Blk)] = h2 at o2 k2 q2
  have o1' := o1.keepN k2
  have k : KB NoB h h2 := KB.trans k1 k2 (fun _ _ h => h) (fun _ _ h => h)
  have e1 := eqIntS_run (base := base) (sr.keepN k) (sr2.keepN k) (by omega)
  have e2 := eqIntS_run (base := base) (sb.keepN k) (sb2.keepN k) (by omega)
  have e3 := eqIntS_run (base := base) (sl.keepN k) (sl2.keepN k) (by omega)
  rw [decide_eq_true rfl] at e1 e2 e3
  refine ⟨h2, r28 (lets fun h1' eh => ?_), k⟩
  rw [hh1] at eh
  subst eh
  refine lets fun h2' eh => ?_
  rw [hh2] at eh
  subst eh
  rw [o1'.at0 (i := 0) rfl, o2.at0 (i := 0) rfl, o1'.at0 (i := 1) rfl, o2.at0 (i := 1) rfl, o1'.at0 (i := 2) rfl, o2.at0 (i := 2) rfl]
  simp only [Option.bind_some, getI, getS, if_true, e1, getB, bne_self_eq_false, Bool.false_eq_true, if_false, Bool.not_true]
  rw [o1'.at0 (i := 3) rfl, o2.at0 (i := 3) rfl]
  simp only [Option.bind_some, getI, getS, if_true, e2, getB, bne_self_eq_false, Bool.false_eq_true, if_false, Bool.not_true]
  rw [o1'.at0 (i := 4) rfl, o2.at0 (i := 4) rfl]
  simp only [Option.bind_some, getI, getS, if_true, e3, getB, bne_self_eq_false, Bool.false_eq_true, if_false, Bool.not_true]
  rw [o1'.at0 (i := 5) rfl, o2.at0 (i := 5) rfl]
  simp only [Option.bind_some, getI, getS, if_true, getB, bne_self_eq_false, Bool.false_eq_true, if_false, Bool.not_true]

theorem markCell_run {base : Nat} {h : AH} {p pc at_ : Int} {r b l : Option Addr} {R B L : List Int} (hb : base ≤ h.length)
    (sr : Own base 3 h r (iv .i64 R)) (sb : Own base 3 h b (iv .i64 B)) (sl : Own base 3 h l (iv .i64 L)) (hR : R.length ≤ 1048576) (hB : B.length ≤ 1048576) (hL : L.length ≤ 1048576)
    (rb : ∀ x, blk r x → ¬ blk b x) (rl : ∀ x, blk r x → ¬ blk l x) (bl : ∀ x, blk b x → ¬ blk l x) :
    ∃ z h', run (Et base) 29 [.agg (cellV p pc r b l R B L at_).toArray, .int .i64 1] h = some (.int .i64 z, h') ∧ KB (fun x => blk r x ∨ blk b x ∨ blk l x) h h' ∧ ¬ z < 0 := by
  obtain ⟨o1, k1, q1⟩ := box_own (base := base) (t := 35) (h := h) (cs := cellV p pc r b l R B L at_) hb rfl
  generalize hh1 : h ++ [some (⟨cellV p pc r b l R B L at_, 35⟩ : Blk)] = h1 at o1 k1 q1
  obtain ⟨h3, e3, or3, k3⟩ := markIntS_run (k := 1) (sr.keepN k1) (by omega) (by omega)
  have n3 := k3.1
  have o3 := o1.keep k3 fun i h1 h2 => by have := (sr.lt h2).2; rw [blk_at0] at h1; omega
  have sb3 := (sb.keepN k1).keep k3 fun i h1 h2 => rb i h2 h1
  have sl3 := (sl.keepN k1).keep k3 fun i h1 h2 => rl i h2 h1
  obtain ⟨h6, e6, ob6, k6⟩ := markIntS_run (k := 1 + R.length) sb3 (by omega) (by omega)
  have o6 := o3.keep k6 fun i h1 h2 => by have := (sb.lt h2).2; rw [blk_at0] at h1; omega
  have sl6 := sl3.keep k6 fun i h1 h2 => bl i h2 h1
  obtain ⟨h9, e9, ol9, k9⟩ := markIntS_run (k := 1 + R.length + B.length) sl6 (by omega) (by omega)
  refine ⟨((1 + R.length + B.length + L.length : Nat) : Int), h9, r29 (lets fun h1' eh => ?_), ?_, by omega⟩
  · rw [hh1] at eh
    subst eh
    rw [o1.at0 (i := 2) rfl]
    have c1 : ((1 : Nat) : Int) = 1 := rfl
    rw [c1] at e3
    simp only [Option.bind_some, getI, getS, if_true, e3]
    rw [o3.at0 (i := 3) rfl]
    simp only [Option.bind_some, getI, getS, if_true, e6]
    rw [o6.at0 (i := 4) rfl]
    simp only [Option.bind_some, getI, getS, if_true, e9]
  · exact KB.trans (KB.trans (KB.trans (T := fun x => blk r x ∨ blk b x ∨ blk l x) k1 k3 (fun _ _ h => h.elim) (fun _ _ h => .inl h)) k6 (fun _ _ h => h) (fun _ _ h => .inr (.inl h))) k9 (fun _ _ h => h) (fun _ _ h => .inr (.inr h))

theorem bs {α β : Type} {x : Option α} {v : α} (h : x = some v) {f : α → Option β} {r : Option β} (hf : f v = r) : x.bind f = r := by rw [h]; exact hf
theorem ifF {β : Type} {c : Prop} [Decidable c] {a b r : Option β} (h : ¬ c) (hb : b = r) : (if c then a else b) = r := by rw [if_neg h]; exact hb
theorem ifT {β : Type} {c : Prop} [Decidable c] {a b r : Option β} (h : c) (ha : a = r) : (if c then a else b) = r := by rw [if_pos h]; exact ha
theorem jn {T β : Type} {q : T} {k : T → Option β} {r : Option β} (h : k q = r) : joinK (Sum.inl q : Sum T β) k = r := h
theorem six {β : Type} {base t n : Nat} {h : AH} {p pc at_ : Int} {r b l : Option Addr} {R B L : List Int} (o : Own base t h (at0 n) (cellV p pc r b l R B L at_)) {f : Int → Int → Option Addr × Nat → Option Addr × Nat → Option Addr × Nat → Int → Option β} {z : Option β}
    (hf : f p pc (r, R.length) (b, B.length) (l, L.length) at_ = z) :
    (((Am.cell h n 0).bind (getI .i64)).bind fun n1 => ((Am.cell h n 1).bind (getI .i64)).bind fun n2 => ((Am.cell h n 2).bind getS).bind fun l3 => ((Am.cell h n 3).bind getS).bind fun l4 => ((Am.cell h n 4).bind getS).bind fun l5 => ((Am.cell h n 5).bind (getI .i64)).bind fun n6 => f n1 n2 l3 l4 l5 n6) = z := by
  rw [o.at0 (i := 0) rfl, o.at0 (i := 1) rfl, o.at0 (i := 2) rfl, o.at0 (i := 3) rfl, o.at0 (i := 4) rfl, o.at0 (i := 5) rfl]
  exact hf
theorem sixA {β : Type} {p pc at_ : Int} {r b l : Option Addr} {R B L : List Int} {f : Int → Int → Option Addr × Nat → Option Addr × Nat → Option Addr × Nat → Int → Option β} {z : Option β}
    (hf : f p pc (r, R.length) (b, B.length) (l, L.length) at_ = z) :
    (((some (Value.agg (cellV p pc r b l R B L at_).toArray)).bind (getAgg 6)).bind fun c => ((c[0]?).bind (getI .i64)).bind fun n1 => ((c[1]?).bind (getI .i64)).bind fun n2 => ((c[2]?).bind getS).bind fun l3 => ((c[3]?).bind getS).bind fun l4 => ((c[4]?).bind getS).bind fun l5 => ((c[5]?).bind (getI .i64)).bind fun n6 => f n1 n2 l3 l4 l5 n6) = z := hf

theorem rootsOf_law {base : Nat} {h : AH} {p pc at_ : Int} {r b l : Option Addr} {R B L : List Int} (sr : Sl h r (iv .i64 R)) (sb : Sl h b (iv .i64 B)) (sl : Sl h l (iv .i64 L)) (hb : base ≤ h.length)
    (hR : R.length ≤ 9223372036854775807) (hB : B.length ≤ 9223372036854775807) (hL : L.length ≤ 9223372036854775807) :
    ∃ h', run (Et base) 5 [.agg (cellV p pc r b l R B L at_).toArray] h = some (.bool true, h') := by
  obtain ⟨o1, k1, q1⟩ := box_own (base := base) (t := 32) (h := h) (cs := cellV p pc r b l R B L at_) hb rfl
  generalize hh1 : h ++ [some (⟨cellV p pc r b l R B L at_, 32⟩ : Blk)] = h1 at o1 k1 q1
  obtain ⟨z, h7, e7, k7, hz⟩ := szCell_run (base := base) (h := h1) (p := p) (pc := pc) (at_ := at_) (r := r) (b := b) (l := l) (R := R) (B := B) (L := L) (by omega) hR hB hL
  have o7 := o1.keepN k7
  have n7 := k7.1
  by_cases hneg : z < 0
  · refine ⟨h7, r5 (lets fun h1' eh => ?_)⟩
    rw [hh1] at eh
    subst eh
    exact six o1 (bs e7 (bs rfl (ifT (decide_eq_true hneg) rfl)))
  obtain ⟨bR, bB, bL⟩ := hz hneg
  have k07 : KB NoB h h7 := KB.trans k1 k7 (fun _ _ h => h) (fun _ _ h => h)
  obtain ⟨r1, b1, l1, h15, e15, x1, x2, x3, k15, f1, f2, f3, _, _, _⟩ := toCell_run (base := base) (p := p) (pc := pc) (at_ := at_) (sr.keepN k07) (sb.keepN k07) (sl.keepN k07) (by omega) bR bB bL
  have n15 := k15.1
  have k015 : KB NoB h h15 := KB.trans k07 k15 (fun _ _ h => h) (fun _ _ h => h)
  obtain ⟨aw, h23, e23, ow, k23, fw⟩ := specRoots_run (base := base) (p := p) (pc := pc) (at_ := at_) (l := l1) (L := L) x1.sl x2.sl (by omega) bR bB
  have n23 := k23.1
  have k023 : KB NoB h h23 := KB.trans k015 k23 (fun _ _ h => h) (fun _ _ h => h)
  have o23 := (o7.keepN k15).keepN k23
  obtain ⟨r2, b2, l2, h31, e31, y1, y2, y3, k31, g1, g2, g3, d1, d2, d3⟩ := toCell_run (base := base) (p := p) (pc := pc) (at_ := at_) (sr.keepN k023) (sb.keepN k023) (sl.keepN k023) (by omega) bR bB bL
  have n31 := k31.1
  have k031 : KB NoB h h31 := KB.trans k023 k31 (fun _ _ h => h) (fun _ _ h => h)
  -- x0
  obtain ⟨oX, kX, qX⟩ := box_own (base := base) (t := 35) (h := h31) (cs := cellV 0 0 none none none [] [] [] 0) (by omega) rfl
  generalize hhX : h31 ++ [some (⟨cellV 0 0 none none none [] [] [] 0, 35⟩ : Blk)] = hX at oX kX qX
  obtain ⟨h39, e39, o39, k39, q39⟩ := oX.wr0 (i := 0) (new := cellV p pc r2 b2 l2 R B L at_) (by simp) (by simp)
  have hset : setAt (cellV 0 0 none none none [] [] [] 0) 0 (cellV p pc r2 b2 l2 R B L at_) = cellV p pc r2 b2 l2 R B L at_ := rfl
  rw [hset] at o39
  have k3139 : KB NoB h31 h39 := KB.trans kX k39 (fun _ _ h => h) (fun i hi h => by omega)
  have k039 : KB NoB h h39 := KB.trans k031 k3139 (fun _ _ h => h) (fun _ _ h => h)
  have y1' := y1.keepN k3139
  have y2' := y2.keepN k3139
  have y3' := y3.keepN k3139
  obtain ⟨ag, h46, e46, og, k46, fg⟩ := implRoots_run (base := base) (p := p) (pc := pc) (at_ := at_) (l := l2) (L := L) y1'.sl y2'.sl (by omega) bR bB
  have n46 := k46.1
  have k046 : KB NoB h h46 := KB.trans k039 k46 (fun _ _ h => h) (fun _ _ h => h)
  have ow46 := ((ow.keepN k31).keepN k3139).keepN k46
  have o46 := (((o23.keepN k31).keepN k3139).keepN k46)
  have oX46 := o39.keepN k46
  have hlen : (R ++ B).length ≤ 140737488355328 := by simp; omega
  have e48 := eqIntS_run (base := base) og.sl ow46.sl hlen
  rw [decide_eq_true rfl] at e48
  obtain ⟨r3, b3, l3, h62, e62, w1, w2, w3, k62, i1, i2, i3, _, _, _⟩ := toCell_run (base := base) (p := p) (pc := pc) (at_ := at_) (sr.keepN k046) (sb.keepN k046) (sl.keepN k046) (by omega) bR bB bL
  have n62 := k62.1
  have oX62 := oX46.keepN k62
  have y1'' := ((y1'.keepN k46).keepN k62)
  have y2'' := ((y2'.keepN k46).keepN k62)
  have y3'' := ((y3'.keepN k46).keepN k62)
  obtain ⟨h70, e70, k70⟩ := eqCell_run (base := base) (p := p) (pc := pc) (at_ := at_) (by omega : base ≤ h62.length) y1''.sl y2''.sl y3''.sl w1.sl w2.sl w3.sl bR bB bL
  have n70 := k70.1
  have oX70 := oX62.keepN k70
  obtain ⟨zk, h78, e78, k78, hzk⟩ := markCell_run (base := base) (p := p) (pc := pc) (at_ := at_) (by omega : base ≤ h70.length) (y1''.keepN k70) (y2''.keepN k70) (y3''.keepN k70) bR bB bL d1 d2 d3
  have n78 := k78.1
  have hy : ∀ x, (blk r2 x ∨ blk b2 x ∨ blk l2 x) → h23.length ≤ x ∧ x < h31.length := by
    intro x hx
    rcases hx with hx | hx | hx
    · exact ⟨g1 x hx, (y1.lt hx).2⟩
    · exact ⟨g2 x hx, (y2.lt hx).2⟩
    · exact ⟨g3 x hx, (y3.lt hx).2⟩
  have og78 := ((og.keepN k62).keepN k70).keep k78 fun i h1 h2 => by have := fg i h1; have := hy i h2; omega
  have ow78 := ((ow46.keepN k62).keepN k70).keep k78 fun i h1 h2 => by have := (ow.lt h1).2; have := hy i h2; omega
  have o78 := ((o46.keepN k62).keepN k70).keep k78 fun i h1 h2 => by rw [blk_at0] at h1; have := hy i h2; omega
  have e81 := eqIntS_run (base := base) og78.sl ow78.sl hlen
  rw [decide_eq_true rfl] at e81
  obtain ⟨h87, e87, og87, k87⟩ := markIntS_run (k := 1) og78 hlen (by omega)
  have n87 := k87.1
  have e89 := heldIntS_run (base := base) (k := 1) og87.sl hlen (by omega)
  have o87 := o78.keep k87 fun i h1 h2 => by rw [blk_at0] at h1; have := fg i h2; omega
  have ow87 := ow78.keep k87 fun i h1 h2 => by have := (ow.lt h1).2; have := fg i h2; omega
  have k070 : KB NoB h h70 := KB.trans (KB.trans k046 k62 (fun _ _ h => h) (fun _ _ h => h)) k70 (fun _ _ h => h) (fun _ _ h => h)
  have keepS : ∀ {a : Option Addr} {vs : List Value}, Sl h a vs → Sl h87 a vs := by
    intro a vs s
    rcases sl_below s with e | hlt
    · exact .inl e
    · exact ((s.keepN k070).keep k78 fun i h1 h2 => by have := hlt i h1; have := hy i h2; omega).keep k87 fun i h1 h2 => by have := hlt i h1; have := fg i h2; omega
  obtain ⟨r4, b4, l4, h97, e97, u1, u2, u3, k97, j1, j2, j3, _, _, _⟩ := toCell_run (base := base) (p := p) (pc := pc) (at_ := at_) (keepS sr) (keepS sb) (keepS sl) (by omega) bR bB bL
  have n97 := k97.1
  obtain ⟨ah, h105, e105, oh, k105, fh⟩ := implRoots_run (base := base) (p := p) (pc := pc) (at_ := at_) (l := l4) (L := L) u1.sl u2.sl (by omega) bR bB
  have ow105 := (ow87.keepN k97).keepN k105
  have e107 := eqIntS_run (base := base) oh.sl ow105.sl hlen
  rw [decide_eq_true rfl] at e107
  have og105 := (og87.keepN k97).keepN k105
  have e109 := heldIntS_run (base := base) (k := 1) og105.sl hlen (by omega)
  have c1 : ((1 : Nat) : Int) = 1 := rfl
  rw [c1] at e87 e89 e109
  have nn : ¬ (((1 + (R ++ B).length : Nat) : Int) < 0) := by omega
  refine ⟨h105, r5 (lets fun h1' eh => ?_)⟩
  rw [hh1] at eh
  subst eh
  refine six o1 ?_
  refine bs e7 (bs rfl (ifF (fun hc => hneg (of_decide_eq_true hc)) ?_))
  refine six o7 ?_
  refine bs e15 (sixA ?_)
  refine bs e23 (bs rfl ?_)
  refine six o23 ?_
  refine bs e31 (sixA ?_)
  refine lets fun hX' eh => ?_
  rw [show h31 ++ [some ⟨[(.int .i64 0), (.int .i64 0), (.slice none 0 0), (.slice none 0 0), (.slice none 0 0), (.int .i64 0)], 35⟩] = hX from hhX] at eh
  subst eh
  refine bs e39 ?_
  refine six o39 ?_
  refine bs e46 (bs rfl (bs e48 (bs rfl (ifF (by decide) ?_))))
  refine six oX46 ?_
  refine six o46 ?_
  refine bs e62 (sixA ?_)
  refine (gate_pos (fun ad had => ?_)).trans ?_
  · injection had with had
    subst had
    have hk : hget h62 h31.length = hget h46 h31.length := k62.2 _ (by omega) (fun h => h)
    exact ⟨fun j hj => by simp only [Am.cell, hk], by rw [hk]⟩
  refine bs e70 (bs rfl (ifF (by decide) ?_))
  refine six oX70 ?_
  refine bs e78 (bs rfl ?_)
  refine bs (v := Sum.inl ([some (.pointer (some ⟨h.length, 0, none⟩)), some (.slice aw (R ++ B).length (R ++ B).length), some (.slice ag (R ++ B).length (R ++ B).length), some (.bool false)], h78)) ?_ ?_
  · refine ifF (fun hc => hzk (of_decide_eq_true hc)) ?_
    refine bs e81 ?_
    exact bs rfl rfl
  refine jn ?_
  refine bs (v := (⟨h.length, 0, none⟩ : Addr)) rfl ?_
  refine bs rfl (bs rfl (bs rfl (ifF (by decide) ?_)))
  refine bs e87 (bs rfl (bs e89 (bs rfl (ifF (fun hc => nn (of_decide_eq_true hc)) (ifF (by simp) ?_)))))
  refine six o87 ?_
  refine bs e97 (sixA ?_)
  refine bs e105 (bs rfl (bs e107 (bs rfl (ifF (by decide) ?_))))
  exact bs e109 (bs rfl (ifF (fun hc => nn (of_decide_eq_true hc)) (ifF (by simp) rfl)))
end Go.Proofs.Ytgigdaijailfkaa.Am
