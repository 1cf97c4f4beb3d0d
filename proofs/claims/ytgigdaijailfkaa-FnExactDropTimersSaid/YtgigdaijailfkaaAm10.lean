/- Builtins: min, max, append.
Conditions: the tables tell the program's types. -/
import Derived.Test.YtgigdaijailfkaaAm9
import Derived.IntWalk
set_option linter.unusedSimpArgs false
set_option linter.unusedVariables false
namespace Go.Proofs.Ytgigdaijailfkaa.Am
open Go Go.RowKit

section
variable {R : Type} {E : Env} {w0 w : World} {φ : Nat → Nat × Nat} {h : AH} {s : Slots} {a : Act} {next : Act → World → Prop} {Q : Exit → Act → World → Prop} {r : R} {c : Value → AH → Option R}
  {rec : Rec} {dst : Option Tmp} {ty : TypeId} {pos : String} {after : Array Edge} {guard : Option (Nat × Bool)}

theorem op_min (xs : Array Operand) (ts : Array TypeId) (v : Value) (vs : List Value) (hev : evs s xs.toList = some (v :: vs)) (hx : minV v vs (fun x => c x h) = some r) (hs : SR E.P E.base φ h.length w s a) (hh : HR E.P E.base w0 φ h w) (hn : Cont E w0 φ h w dst a next c r) :
    (⟨dst, .call { callee := .builtin .min, args := xs, argTypes := ts }, ty, pos, after, guard⟩ : Oper).wp E.P a w next Q := by
  obtain ⟨hl, hr⟩ := evs_rel hs hev
  obtain ⟨xs⟩ := xs
  simp only at hl hr
  match xs, hl, hr with
  | x :: xs, hl, hr =>
    obtain ⟨z, h1, z', h2, h3⟩ := min_run w vs (xs.map a.eval) v (a.eval x) _ hx (by simpa using hl) (fun i p q hp hq => hr (i + 1) p q hp (by simpa using hq)) (hr 0 v _ rfl rfl)
    exact done_pure (o := ⟨dst, .call { callee := .builtin .min, args := (x :: xs).toArray, argTypes := ts }, ty, pos, after, guard⟩) hn hh h1 h2 (by
      simp only [execOp, resolve, invoke, builtin, Builtin.min_, Sem.run_bind, Sem.run_pure, Result.andThen_ok, List.map_toArray, List.map_cons]
      rw [h3]; rfl)
theorem op_max (xs : Array Operand) (ts : Array TypeId) (v : Value) (vs : List Value) (hev : evs s xs.toList = some (v :: vs)) (hx : maxV v vs (fun x => c x h) = some r) (hs : SR E.P E.base φ h.length w s a) (hh : HR E.P E.base w0 φ h w) (hn : Cont E w0 φ h w dst a next c r) :
    (⟨dst, .call { callee := .builtin .max, args := xs, argTypes := ts }, ty, pos, after, guard⟩ : Oper).wp E.P a w next Q := by
  obtain ⟨hl, hr⟩ := evs_rel hs hev
  obtain ⟨xs⟩ := xs
  simp only at hl hr
  match xs, hl, hr with
  | x :: xs, hl, hr =>
    obtain ⟨z, h1, z', h2, h3⟩ := max_run w vs (xs.map a.eval) v (a.eval x) _ hx (by simpa using hl) (fun i p q hp hq => hr (i + 1) p q hp (by simpa using hq)) (hr 0 v _ rfl rfl)
    exact done_pure (o := ⟨dst, .call { callee := .builtin .max, args := (x :: xs).toArray, argTypes := ts }, ty, pos, after, guard⟩) hn hh h1 h2 (by
      simp only [execOp, resolve, invoke, builtin, Builtin.max_, Sem.run_bind, Sem.run_pure, Result.andThen_ok, List.map_toArray, List.map_cons]
      rw [h3]; rfl)

/-- A row written behind its end goes on under a new name. -/
theorem HR.regrow (hh : HR E.P E.base w0 φ h w) {b : Nat} {k : Blk} (hk : hget h b = some k) (hb : E.base ≤ b) {cur : Array Value} (hcur : w.heap[(φ b).1]? = some (.cells cur k.ty (0, 0)))
    (nc : Array Value) (hsz : nc.size = cur.size) (o : Nat) (ncs : List Value) (hr : ∀ (j : Nat) (v : Value), ncs[j]? = some v → ∃ u, nc[o + j]? = some u ∧ CR E.P E.base φ h.length w v u) :
    ∃ φ', Ext φ h w φ' (h.set b none ++ [some ⟨ncs, k.ty⟩]) (w.setRow (φ b).1 nc) ∧ HR E.P E.base w0 φ' (h.set b none ++ [some ⟨ncs, k.ty⟩]) (w.setRow (φ b).1 nc) ∧ φ' h.length = ((φ b).1, o) := by
  let φ' : Nat → Nat × Nat := fun i => if i = h.length then ((φ b).1, o) else φ i
  have hold : ∀ i, i < h.length → φ' i = φ i := fun i hi => by simp only [φ']; rw [if_neg (by omega)]
  have hnew : φ' h.length = ((φ b).1, o) := by simp [φ']
  have hshape := setRow_shape w (φ b).1 cur nc k.ty (0, 0) hcur hsz
  have hbase : E.base ≤ (φ b).1 := by
    obtain ⟨cs, fr, _, _, h3⟩ := hh.blk b k hk
    exact (h3 hb).2
  have hlt := hget_lt hk
  have hbl : ∀ i l, hget h i = some l → i ≠ b → (φ i).1 ≠ (φ b).1 := fun i l hi hne e => hne (hh.inj i b l k hi hk e)
  have hlen : (h.set b none).length = h.length := by simp
  have hcase : ∀ i l, hget (h.set b none ++ [some ⟨ncs, k.ty⟩]) i = some l → (i < h.length ∧ i ≠ b ∧ hget h i = some l) ∨ (i = h.length ∧ l = ⟨ncs, k.ty⟩) := fun i l hi => by
    rcases Nat.lt_trichotomy i h.length with hl | heq | hgt
    · rw [hget_append_lt (by rw [hlen]; exact hl)] at hi
      obtain ⟨h1, h2⟩ := kill_live hi
      exact .inl ⟨hl, Ne.symm h2, h1⟩
    · have : hget (h.set b none ++ [some ⟨ncs, k.ty⟩]) h.length = some ⟨ncs, k.ty⟩ := by
        have := hget_append_new (h := h.set b none) (x := some ⟨ncs, k.ty⟩)
        rw [hlen] at this; exact this
      rw [heq, this] at hi
      injection hi with hi
      exact .inr ⟨heq, hi.symm⟩
    · rw [hget_append_ge (by rw [hlen]; exact hgt)] at hi; cases hi
  refine ⟨φ', ⟨by simp, hold, ?_, fun x _ hx => ?_, by simp, hshape⟩, ⟨?_, ?_, ?_, ?_, ?_, ?_⟩, hnew⟩
  · intro i l hi _
    rcases hcase i l hi with ⟨h1, h2, h3⟩ | ⟨h1, _⟩
    · exact ⟨i, l, h3, by rw [hold i h1]⟩
    · rw [h1, hnew]; exact ⟨b, k, hk, rfl⟩
  · exact setRow_other w _ x nc (fun e => hx b k hk e.symm)
  · exact hh.below.trans ⟨rfl, rfl, rfl, by simp, fun x hx => setRow_other w _ x nc (by omega)⟩
  · intro i l hi
    rcases hcase i l hi with ⟨h1, h2, h3⟩ | ⟨h1, h2⟩
    · obtain ⟨cs, fr, g1, g2, g3⟩ := hh.blk i l h3
      rw [hold i h1]
      refine ⟨cs, fr, by rw [setRow_other w _ _ nc (hbl i l h3 h2)]; exact g1, fun j v hj => ?_, g3⟩
      obtain ⟨u, hu, hv⟩ := g2 j v hj
      exact ⟨u, hu, hv.mono hold (by simp) hshape⟩
    · subst h2
      rw [h1, hnew]
      refine ⟨nc, (0, 0), setRow_heap w _ cur nc k.ty (0, 0) hcur, fun j v hj => ?_, fun _ => ⟨rfl, hbase⟩⟩
      obtain ⟨u, hu, hv⟩ := hr j v hj
      exact ⟨u, hu, hv.mono hold (by simp) hshape⟩
  · intro i j l m hi hj e
    rcases hcase i l hi with ⟨h1, h2, h3⟩ | ⟨h1, h2⟩ <;> rcases hcase j m hj with ⟨g1, g2, g3⟩ | ⟨g1, g2⟩
    · rw [hold i h1, hold j g1] at e; exact hh.inj i j l m h3 g3 e
    · rw [g1, hold i h1, hnew] at e
      exact absurd e (hbl i l h3 h2)
    · rw [h1, hold j g1, hnew] at e
      exact absurd e.symm (hbl j m g3 g2)
    · omega
  · intro i hi; rw [hold i (Nat.lt_of_lt_of_le hi hh.len)]; exact hh.lo i hi
  · have := hh.len; simp; omega
  · simpa using hh.bw

/-- What append does where there's room. -/
def AppRoom (P : Program) (w : World) (t u ty : TypeId) (sz : Nat) (x : Value) (m : Nat) (news : List Value) : Prop :=
  ∀ (b : Addr) (n cap : Nat) (w' : World), n + m ≤ cap → (storeCells (b.add (n * sz)) news).run P w = .ok () w' → (Builtin.append_ #[t, u] ty #[.slice (some b) n cap, x]).run P w = .ok (.slice (some b) (n + m) cap) w'
/-- And where there's none. -/
def AppGrow (P : Program) (w : World) (t u ty e : TypeId) (sz bytes : Nat) (z : Value) (x : Value) (m : Nat) (news : List Value) : Prop :=
  ∀ (ba : Option Addr) (n cap : Nat) (olds : List Value), (Builtin.firstCells sz n (.slice ba n cap)).run P w.drew = .ok olds.toArray w.drew → cap < n + m → n + m ≤ 9223372036854775807 → (n + m) * bytes ≤ 140737488355328 →
    (Builtin.append_ #[t, u] ty #[.slice ba n cap, x]).run P w = .ok (.slice (some ⟨w.heap.size, 0, none⟩) (n + m) (grownCap w (n + m) cap e))
        (w.drew.alloc (.cells (olds.toArray ++ news.toArray ++ Builtin.zeroCells z.cells (grownCap w (n + m) cap e - (n + m))) e))

theorem app_plain {P : Program} {t u ty e : TypeId} {i : TypeInfo} {z : Value} (ht : P.underlying t = some (.slice e)) (hu : P.underlying u = some (.slice e) ∨ P.underlying u = some .string) (hi : P.info? e = some i) (hz : i.zero = some z)
    {x : Value} {m : Nat} {news : List Value} (hl : Builtin.lenOf x = pure m) (hf : (Builtin.firstCells i.size m x).run P w = .ok news.toArray w) (hf' : (Builtin.firstCells i.size m x).run P w.drew = .ok news.toArray w.drew) :
    AppRoom P w t u ty i.size x m news ∧ AppGrow P w t u ty e i.size i.bytes z x m news := by
  constructor
  · intro b n cap w' hr hst
    rcases hu with hu | hu <;> simp [Builtin.append_, run_underlying ht, run_underlying hu, sizeOf, typeInfo, hi, hl, hr, hf, hst]
  · intro ba n cap olds hfo hg h63 hb
    have hn : ¬ (n + m ≤ cap) := by omega
    have h63' : ¬ (9223372036854775807 < ((n : Int) + (m : Int))) := by omega
    have h48 := growslice_fits hg hb
    have h48' : ¬ (281474976710656 < Builtin.nextslicecap (n + m) cap * i.bytes) := by omega
    rcases hu with hu | hu <;> (
      simp [Builtin.append_, run_underlying ht, run_underlying hu, sizeOf, typeInfo, zeroValue, hi, hz, hl, hn, h63', h48', Question.forced, hf', hfo, newRow, grownCap]
      congr 2
      apply Array.ext'
      simp [List.append_assoc])

theorem app_zeros {P : Program} {t u ty e : TypeId} {i : TypeInfo} {z : Value} (ht : P.underlying t = some (.slice e)) {k : IntKind} (hu : P.underlying u = some (.int k)) (hi : P.info? e = some i) (hz : i.zero = some z)
    {m : Int} (h0 : 0 < m) (hm : m ≤ 140737488355328) (hb : m.toNat * i.bytes ≤ 140737488355328) (hsz : 0 < i.size) :
    AppRoom P w t u ty i.size (.int .i64 m) m.toNat (Builtin.zeroCells z.cells m.toNat).toList ∧ AppGrow P w t u ty e i.size i.bytes z (.int .i64 m) m.toNat (Builtin.zeroCells z.cells m.toNat).toList := by
  have hw : IntKind.i64.wrap m = m := IntWalk.i64_in m (by omega)
  have hneg : ¬ (m < 0) := by omega
  have hbig : ¬ (m * (i.bytes : Int) > 281474976710656) := by
    have : m * (i.bytes : Int) = ((m.toNat * i.bytes : Nat) : Int) := by
      rw [Int.natCast_mul, Int.toNat_of_nonneg (by omega)]
    rw [this]; omega
  have hne : m.toNat * i.size ≠ 0 := Nat.mul_ne_zero (by omega) (by omega)
  have hne' : ¬ (m.toNat = 0 ∨ i.size = 0) := by omega
  constructor
  · intro b n cap w' hr hst
    simp [Builtin.append_, run_underlying ht, run_underlying hu, sizeOf, typeInfo, zeroValue, hi, hz, hr, hst, hw, hneg, hbig, hne, hne', asInt, asIntOf]
  · intro ba n cap olds hfo hg h63 hb
    have hn : ¬ (n + m.toNat ≤ cap) := by omega
    have h63' : ¬ (9223372036854775807 < ((n : Int) + (m.toNat : Int))) := by omega
    have h48 := growslice_fits hg hb
    have h48' : ¬ (281474976710656 < Builtin.nextslicecap (n + m.toNat) cap * i.bytes) := by omega
    simp [Builtin.append_, run_underlying ht, run_underlying hu, sizeOf, typeInfo, zeroValue, hi, hz, hn, h63', h48', Question.forced, hfo, newRow, grownCap, hw, hneg, hbig, hne, hne', asInt, asIntOf]
    intro hq
    omega

theorem grow_some {base : Nat} {h : AH} {t sz bytes : Nat} {ad : Option Addr} {n m : Nat} {new : List Value} {p : Value × AH} (hx : grow base h t sz bytes ad n new m = some p) : (n + m) * bytes ≤ 140737488355328 ∧ n + m ≤ 9223372036854775807 ∧
    ((ad = none ∧ n = 0 ∧ p = (.slice (some ⟨h.length, 0, none⟩) m m, h ++ [some ⟨new, t⟩])) ∨ ∃ x k, ad = some x ∧ hget h x.block = some k ∧ base ≤ x.block ∧ k.ty = t ∧ x.off + n * sz ≤ k.cs.length ∧
      p = (.slice (some ⟨h.length, 0, none⟩) (n + m) (n + m), h.set x.block none ++ [some ⟨(k.cs.drop x.off).take (n * sz) ++ new, t⟩])) := by
  unfold grow at hx
  split at hx
  · rename_i h1
    refine ⟨h1.1, h1.2, ?_⟩
    cases ad with
    | none =>
      simp only at hx
      split at hx
      · rename_i h2; injection hx with hx; exact .inl ⟨rfl, h2, hx.symm⟩
      · cases hx
    | some x =>
      simp only at hx
      cases hk : hget h x.block with
      | none => rw [hk] at hx; cases hx
      | some k =>
        rw [hk] at hx
        simp only [Option.bind_some] at hx
        split at hx
        · rename_i h2; injection hx with hx; exact .inr ⟨x, k, rfl, hk, h2.1, h2.2.1, h2.2.2, hx.symm⟩
        · cases hx
  · cases hx

theorem addr_add (b o n : Nat) : (⟨b, o, none⟩ : Addr).add n = ⟨b, o + n, none⟩ := by
  unfold Addr.add
  split
  · rename_i h0; rw [h0]; rfl
  · rfl

theorem app_sound (hE : EnvOk E) (hh : HR E.P E.base w0 φ h w) {t u ty e sz bytes : Nat} {j : TI} {z : Value} (hj : E.ti e = some j) (hsz : j.ks.length = sz) (hzs : z.cells.size = sz) (hpos : 0 < sz) {x : Value} {m : Nat} {new news : List Value} (hm : 0 < m) (hnl : new.length = m * sz) (hnl2 : news.length = m * sz)
    (hnr : ∀ (j : Nat) (p q : Value), new[j]? = some p → news[j]? = some q → VR E.P E.base φ h.length w p q) (h1c : ∀ v ∈ news, v.oneCell' = true)
    (hR : AppRoom E.P w t u ty sz x m news) (hG : AppGrow E.P w t u ty e sz bytes z x m news) {ad : Option Addr} {n c0 : Nat} {y : Value} (hv : VR E.P E.base φ h.length w (.slice ad n c0) y) {p : Value × AH} (hg : grow E.base h e sz bytes ad n new m = some p) :
    ∃ v' w' φ', (Builtin.append_ #[t, u] ty #[y, x]).run E.P w = .ok v' w' ∧ Ext φ h w φ' p.2 w' ∧ HR E.P E.base w0 φ' p.2 w' ∧ VR E.P E.base φ' p.2.length w' p.1 v' := by
  obtain ⟨a', cap, rfl, hnc, hor⟩ := hv.slice_inv
  obtain ⟨hb1, hb2, hcase⟩ := grow_some hg
  have hsub : (Builtin.zeroCells z.cells (grownCap w (n + m) cap e - (n + m))).size = (grownCap w (n + m) cap e - (n + m)) * sz := by simp [Builtin.zeroCells, hzs]
  have hco := (hE.ti e j hj).cellsOf
  have hge := grownCap_ge w (n + m) cap e
  -- a new row
  have fresh : ∀ (olds oldc : List Value), oldc.length = n * sz → olds.length = n * sz → (∀ (i : Nat) (p q : Value), oldc[i]? = some p → olds[i]? = some q → CR E.P E.base φ h.length w p q) →
      (Builtin.firstCells sz n (.slice a' n cap)).run E.P w.drew = .ok olds.toArray w.drew → cap < n + m → ∀ h1, (∃ k, h1 = h ∨ h1 = h.set k none) → p = (.slice (some ⟨h.length, 0, none⟩) (n + m) (n + m), h1 ++ [some ⟨oldc ++ new, e⟩]) →
      ∃ v' w' φ', (Builtin.append_ #[t, u] ty #[.slice a' n cap, x]).run E.P w = .ok v' w' ∧ Ext φ h w φ' p.2 w' ∧ HR E.P E.base w0 φ' p.2 w' ∧ VR E.P E.base φ' p.2.length w' p.1 v' := by
    intro olds oldc l1 l2 hr hf hcap h1 hh1 hp
    have hH : HR E.P E.base w0 φ h1 w ∧ Ext φ h w φ h1 w ∧ h1.length = h.length := by
      obtain ⟨k, rfl | rfl⟩ := hh1
      · exact ⟨hh, Ext.refl .., rfl⟩
      · exact ⟨hh.kill k, Ext.kill .., by simp⟩
    obtain ⟨H1, H2, H3⟩ := hH
    obtain ⟨φ', e1, e2, e3, e4, _⟩ := H1.push (oldc ++ new) e (olds.toArray ++ news.toArray ++ Builtin.zeroCells z.cells (grownCap w (n + m) cap e - (n + m))) (w.drew.alloc (.cells (olds.toArray ++ news.toArray ++ Builtin.zeroCells z.cells (grownCap w (n + m) cap e - (n + m))) e)) ⟨w.drawn + 1, rfl⟩ (fun i v hi => by
      rw [H3]
      by_cases hlt : i < n * sz
      · rw [List.getElem?_append_left (by omega)] at hi
        have hq : i < olds.length := by omega
        refine ⟨olds[i], ?_, hr i v _ hi (List.getElem?_eq_getElem hq)⟩
        rw [Array.getElem?_append_left (by simp; omega), Array.getElem?_append_left (by simp; omega)]
        simp [hq]
      · rw [List.getElem?_append_right (by omega)] at hi
        have hi' := (List.getElem?_eq_some_iff.1 hi).1
        have hq : i - oldc.length < news.length := by omega
        refine ⟨news[i - oldc.length], ?_, fun _ => hnr (i - oldc.length) v _ hi (List.getElem?_eq_getElem hq)⟩
        rw [Array.getElem?_append_left (by simp; omega), Array.getElem?_append_right (by simp; omega)]
        simp [l1, l2])
    subst hp
    refine ⟨_, _, φ', hG a' n cap olds hf hcap hb2 hb1, H2.trans e1, e2, ?_⟩
    simp only
    rw [← H3]
    refine new_slice (E := E) (cs := 0) (us := 0) e3 (by simp) e4 hge ?_
    rw [hco, hsz]
    simp only [Array.size_append, List.size_toArray, hsub, l2, hnl2, ← Nat.add_mul]
    exact Nat.le_of_eq (by congr 1; omega)
  rcases hcase with ⟨rfl, hn0, hp⟩ | ⟨xa, k, rfl, hk, hkb, hkt, hko, hp⟩
  · subst hn0
    rcases hor with ⟨_, hc0, _⟩ | ⟨z, hz, _⟩
    · subst hc0
      refine fresh [] [] (by simp) (by simp) (fun i p q hp _ => by simp at hp) ?_ (by omega) h ⟨0, .inl rfl⟩ (by simpa using hp)
      cases a' <;> simp [Builtin.firstCells, loadCells, loadCellsFrom]
    · cases hz
  · obtain ⟨cur, fr, g1, g2, g3⟩ := hh.blk xa.block k hk
    obtain ⟨rfl, hbase⟩ := g3 hkb
    have hoc : ((k.cs.drop xa.off).take (n * sz)).length = n * sz := by simp; omega
    -- the old cells
    have hold : ∀ j, j < n * sz → ∃ u, cur[(φ xa.block).2 + (xa.off + j)]? = some u ∧ ∀ v, ((k.cs.drop xa.off).take (n * sz))[j]? = some v → CR E.P E.base φ h.length w v u := by
      intro j hj
      have hq : xa.off + j < k.cs.length := by omega
      obtain ⟨u, hu, hr⟩ := g2 (xa.off + j) _ (List.getElem?_eq_getElem hq)
      refine ⟨u, hu, fun v hv => ?_⟩
      rw [List.getElem?_take_of_lt hj, List.getElem?_drop, List.getElem?_eq_getElem hq] at hv
      injection hv with hv
      rw [← hv]; exact hr
    let f : Nat → Value := fun j => if hj : j < n * sz then (hold j hj).choose else undef
    have hf : ∀ j, j < n * sz → cur[(φ xa.block).2 + (xa.off + j)]? = some (f j) ∧ ∀ v, ((k.cs.drop xa.off).take (n * sz))[j]? = some v → CR E.P E.base φ h.length w v (f j) := by
      intro j hj
      simp only [f, hj, dite_true]
      exact (hold j hj).choose_spec
    by_cases hroom : n + m ≤ cap
    · rcases hor with ⟨_, hc0, _⟩ | ⟨xb, hxb, hsp, hlt, ha', hrm⟩
      · omega
      · injection hxb with hxb
        subst hxb
        subst ha'
        obtain ⟨e', sz', q1, q2⟩ := hrm hbase
        simp only [World.shape?, g1] at q1
        injection q1 with q1
        injection q1 with q1 q3
        subst q1; subst q3
        rw [hkt, hco, hsz] at q2
        have hfit : (φ xa.block).2 + xa.off + n * sz + news.length ≤ cur.size := by
          have : (n + m) * sz ≤ cap * sz := Nat.mul_le_mul_right _ hroom
          rw [Nat.add_mul] at this
          omega
        have hst := run_storeCells_at E.P (φ xa.block).1 ((φ xa.block).2 + xa.off + n * sz) k.ty news 0 cur w g1 (by simpa using hfit) h1c
        simp only [Nat.add_zero] at hst
        generalize hnc : (cur.toList.take ((φ xa.block).2 + xa.off + n * sz) ++ news ++ cur.toList.drop ((φ xa.block).2 + xa.off + n * sz + news.length)).toArray = nc at hst
        have hncs : nc.size = cur.size := by rw [← hnc]; simp; omega
        have hget : ∀ j, nc[j]? = if (φ xa.block).2 + xa.off + n * sz ≤ j ∧ j < (φ xa.block).2 + xa.off + n * sz + news.length then news[j - ((φ xa.block).2 + xa.off + n * sz)]? else cur[j]? := by
          intro j
          have := setAt_get (cs := cur.toList) (vs := news) (o := (φ xa.block).2 + xa.off + n * sz) (by simpa using hfit) j
          rw [← hnc]
          simp only [setAt] at this
          simpa using this
        obtain ⟨φ', e1, e2, e3⟩ := hh.regrow hk hkb g1 nc hncs ((φ xa.block).2 + xa.off) ((k.cs.drop xa.off).take (n * sz) ++ new) (fun j v hj => by
          by_cases hlt' : j < n * sz
          · rw [List.getElem?_append_left (by omega)] at hj
            obtain ⟨r1, r2⟩ := hf j hlt'
            exact ⟨f j, by rw [hget, if_neg (by omega), Nat.add_assoc]; exact r1, r2 v hj⟩
          · rw [List.getElem?_append_right (by omega)] at hj
            have hi' := (List.getElem?_eq_some_iff.1 hj).1
            have hq : j - ((k.cs.drop xa.off).take (n * sz)).length < news.length := by omega
            refine ⟨news[j - ((k.cs.drop xa.off).take (n * sz)).length], ?_, fun _ => hnr _ v _ hj (List.getElem?_eq_getElem hq)⟩
            rw [hget, if_pos ⟨by omega, by omega⟩, ← List.getElem?_eq_getElem hq]
            congr 1
            omega)
        subst hp
        rw [← hkt]
        refine ⟨_, _, φ', hR _ n cap _ hroom (by rw [addr_add]; exact hst), e1, e2, ?_⟩
        have := VR.slice (P := E.P) (base := E.base) (φ := φ') (n := (h.set xa.block none ++ [some (⟨(k.cs.drop xa.off).take (n * sz) ++ new, k.ty⟩ : Blk)]).length) (w := w.setRow (φ xa.block).1 nc) h.length 0 (n + m) (n + m) cap (by simp) hroom (fun _ => ⟨k.ty, cur.size, by
          rw [e3]
          simp only [World.shape?, setRow_heap w _ cur nc k.ty (0, 0) g1, hncs], by
          rw [e3, hkt, hco, hsz]
          simpa using q2⟩)
        rw [e3] at this
        simpa using this
    · refine fresh ((List.range (n * sz)).map f) _ hoc (by simp) (fun i p q hp hq => ?_) ?_ (by omega) (h.set xa.block none) ⟨_, .inr rfl⟩ hp
      · have hi : i < n * sz := by have := (List.getElem?_eq_some_iff.1 hp).1; omega
        simp [hi] at hq
        rw [← hq]
        exact (hf i hi).2 p hp
      · rcases hor with ⟨hn0, _, _⟩ | ⟨xb, hxb, hsp, hlt, ha', hrm⟩
        · subst hn0
          cases a' <;> simp [Builtin.firstCells, loadCells, loadCellsFrom]
        · injection hxb with hxb
          subst hxb
          subst ha'
          exact run_firstCells_some (P := E.P) w.drew sz n _ _ _ _ (by simp) (fun i v hi => by
            have hlt' : i < n * sz := by have := (List.getElem?_eq_some_iff.1 hi).1; simpa using this
            simp [hlt'] at hi
            subst hi
            rw [addr_add]
            have := (hf i hlt').1
            rw [← Nat.add_assoc] at this
            have hg1 : w.drew.heap[(φ xa.block).1]? = some (.cells cur k.ty (0, 0)) := g1
            simp [World.cell?, hg1, this])
end
end Go.Proofs.Ytgigdaijailfkaa.Am
