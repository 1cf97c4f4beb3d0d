/- A region whose order is open: what the abstract machine tells comes out in each order.
Conditions: the tables tell the program's types; what a called function does is given; all orders are the program's. -/
import Derived.Test.YtgigdaijailfkaaAm17
set_option linter.unusedSimpArgs false
set_option linter.unusedVariables false
namespace Go.Proofs.Ytgigdaijailfkaa.Am
open Go Go.RowKit

section
variable {R : Type} {E : Env} {w0 : World} {Q : Exit → Act → World → Prop} {r : R} {rec : Rec} {ops : Array Oper} {T : Nat → St} {V : Nat → Option Value} {c : Slots → AH → Option R}
  {φ0 : Nat → Nat × Nat} {wS : World}

/-- How things stand when some of the operations have been carried out. -/
structure Stands (E : Env) (w0 : World) (ops : Array Oper) (T : Nat → St) (V : Nat → Option Value) (φ0 : Nat → Nat × Nat) (wS : World) (L : Array Bool) (m : Nat) (φ : Nat → Nat × Nat) (a : Act) (w : World) : Prop where
  size : L.size = ops.size
  closed : Closed ops L
  m_le : m ≤ ops.size
  front : ∀ k, eff ops V k → (k < m ↔ L.getD k false = true)
  ext : Ext φ0 (T 0).h wS φ (T m).h w
  heap : HR E.P E.base w0 φ (T m).h w
  slots : SR E.P E.base φ (T m).h.length w (sD ops V (T 0).s L ops.size) a

theorem closed_set {L : Array Bool} (hL : L.size = ops.size) (hC : Closed ops L) {j : Nat} {o : Oper} (ho : ops[j]? = some o) (he : ∀ e ∈ o.after.toList, bindsAny e = true → L.getD e.on false = true) : Closed ops (L.setIfInBounds j true) := by
  have hjs : j < ops.size := (Array.getElem?_eq_some_iff.1 ho).1
  have keep : ∀ x, L.getD x false = true → (L.setIfInBounds j true).getD x false = true := by
    intro x hx
    by_cases e : j = x
    · subst e; exact getD_set_self (by omega)
    · rw [getD_set_ne' e]; exact hx
  intro i o' ho' hi e hm hb
  by_cases e' : j = i
  · subst e'
    rw [ho] at ho'
    injection ho' with ho'
    subst ho'
    exact keep _ (he e hm hb)
  · rw [getD_set_ne' e'] at hi
    exact keep _ (hC i o' ho' hi e hm hb)

theorem done_all (G : Region E rec ops T V) {L : Array Bool} {m : Nat} {φ : Nat → Nat × Nat} {a : Act} {w : World} (H : Stands E w0 ops T V φ0 wS L m φ a w) (hr : ∀ j, j < ops.size → L.getD j false = true)
    (hQ : ∀ φ' a' w', Ext φ0 (T 0).h wS φ' (T ops.size).h w' → HR E.P E.base w0 φ' (T ops.size).h w' → SR E.P E.base φ' (T ops.size).h.length w' (T ops.size).s a' → Q .normal a' w') : Q .normal a w := by
  have hm : (T ops.size).h = (T m).h := G.calm H.m_le (Nat.le_refl _) fun k h1 h2 he => by
    have := (H.front k he).2 (hr k h2)
    omega
  have hs : ∀ k, k ≤ ops.size → sD ops V (T 0).s L k = (T k).s := by
    intro k
    induction k with
    | zero => intro _; rfl
    | succ k ih => intro hk; rw [sD_succ, if_pos (hr k (by omega)), ih (by omega), G.slots (by omega)]
  have h1 := H.ext
  have h2 := H.heap
  have h3 := H.slots
  rw [← hm] at h1 h2 h3
  rw [hs _ (Nat.le_refl _)] at h3
  exact hQ φ a w h1 h2 h3

theorem any_sound (hE : EnvOk E) (hrec : RecOk E w0 rec) (G : Region E rec ops T V)
    (hQ : ∀ φ' a' w', Ext φ0 (T 0).h wS φ' (T ops.size).h w' → HR E.P E.base w0 φ' (T ops.size).h w' → SR E.P E.base φ' (T ops.size).h.length w' (T ops.size).s a' → Q .normal a' w') :
    ∀ (fuel : Nat) (L : Array Bool) (m : Nat) (φ : Nat → Nat × Nat) (a : Act) (w : World), L.toList.count false ≤ fuel → Stands E w0 ops T V φ0 wS L m φ a w → wpAny E.P .any ops Q fuel L a w
  | 0, L, m, φ, a, w, hf, H => by
    have hall : ∀ j, j < ops.size → L.getD j false = true := by
      intro j hj
      have hj' : j < L.size := by rw [H.size]; exact hj
      have h0 : L.toList.count false = 0 := by omega
      have := List.count_eq_zero.1 h0
      cases hq : L[j] with
      | true => simp [hj', hq]
      | false => exact absurd (List.mem_iff_getElem.2 ⟨j, by simpa using hj', by simpa using hq⟩) this
    refine ⟨?_, done_all G H hall hQ⟩
    rw [List.eq_nil_iff_forall_not_mem]
    intro j hj
    obtain ⟨h1, o, ho, _⟩ := mem_ready.1 hj
    have hjs : j < ops.size := (Array.getElem?_eq_some_iff.1 ho).1
    have := hall j hjs
    have hj' : j < L.size := by rw [H.size]; exact hjs
    simp [hj'] at h1 this
    rw [h1] at this; cases this
  | fuel + 1, L, m, φ, a, w, hf, H => by
    refine ⟨fun hr => done_all G H (fun j => ?_) hQ, fun j hj => ?_⟩
    · -- all done
      induction j using Nat.strongRecOn with
      | _ j ih =>
        intro hjs
        cases hq : L.getD j false with
        | true => rfl
        | false =>
          have ho : ops[j]? = some ops[j] := Array.getElem?_eq_getElem hjs
          have : j ∈ Region.ready .any ops L := mem_ready.2 ⟨by
            have hj' : j < L.size := by rw [H.size]; exact hjs
            simp [hj'] at hq ⊢
            exact hq, _, ho, fun e he hb => by
              rw [bindsAny_eq] at hb
              have hlt := G.edge ho e (by simpa using he) hb
              exact ih e.on hlt (by omega)⟩
          rw [hr] at this; cases this
    · obtain ⟨h1, o, ho, hedge⟩ := mem_ready.1 hj
      have hjs : j < ops.size := (Array.getElem?_eq_some_iff.1 ho).1
      have hj' : j < L.size := by rw [H.size]; exact hjs
      have hjL : L.getD j false = false := by simp [hj'] at h1 ⊢; exact h1
      have hedge' : ∀ e ∈ o.after.toList, bindsAny e = true → L.getD e.on false = true := fun e he hb => hedge e (by simpa using he) (by rw [bindsAny_eq]; exact hb)
      have hbits := closed_bits H.closed j o ho hedge'
      have hcl := closed_set H.size H.closed ho hedge'
      have agree : ∀ t, t ∈ tmpsOf ops.toList o → sget (sD ops V (T 0).s L ops.size) t = sget (T j).s t := fun t ht => sD_agree G H.closed ho hjL hbits ht
      have hcount : (L.setIfInBounds j true).toList.count false ≤ fuel := by
        rw [Array.toList_setIfInBounds, List.count_set (by simpa using hj')]
        have hq : L.toList[j]'(by simpa using hj') = false := by simp [hj'] at hjL; simpa using hjL
        have hpos : 0 < L.toList.count false := List.count_pos_iff.2 (List.mem_iff_getElem.2 ⟨j, by simpa using hj', hq⟩)
        rw [hq, if_pos (by decide), if_neg (by decide)]
        omega
      -- what follows
      have next : ∀ (m' : Nat) (φ' : Nat → Nat × Nat) (u : Value) (w' : World), m' ≤ ops.size → (∀ k, eff ops V k → (k < m' ↔ (L.setIfInBounds j true).getD k false = true)) → Ext φ (T m).h w φ' (T m').h w' → HR E.P E.base w0 φ' (T m').h w' →
          VR E.P E.base φ' (T m').h.length w' (outOf V j) u → wpAny E.P .any ops Q fuel (L.setIfInBounds j true) (a.put o.dst u) w' := by
        intro m' φ' u w' hm' hfr he hh hv
        refine any_sound hE hrec G hQ fuel _ m' φ' _ w' hcount ⟨by simp [H.size], hcl, hm', hfr, H.ext.trans he, hh, ?_⟩
        exact ((H.slots.ext he).put o.dst hv).congr (by rw [sD_length, sput_length, sD_length]) fun t => sD_set G H.size H.closed ho hjL t
      have stay : ¬ eff ops V j → ∀ k, eff ops V k → (k < m ↔ (L.setIfInBounds j true).getD k false = true) := by
        intro hne k hk
        have : j ≠ k := fun e => hne (e ▸ hk)
        rw [getD_set_ne' this]
        exact H.front k hk
      -- guards
      have hgv : ∀ b, gv ops.toList o (T j).s b → Region.wanted o (yielded ops a.tmps) = b := by
        intro b hb
        refine gv_wanted H.slots ?_
        unfold gv at hb ⊢
        cases hg : o.guard with
        | none => rw [hg] at hb; exact hb
        | some p =>
          obtain ⟨g, want⟩ := p
          rw [hg] at hb
          simp only at hb ⊢
          obtain ⟨d, hd, hor⟩ := hb
          have : d ∈ tmpsOf ops.toList o := by
            unfold tmpsOf
            rw [hg]
            simp only [List.mem_append]
            right
            rw [hd]
            simp
          rw [← agree d this] at hor
          exact ⟨d, hd, hor⟩
      have hst := G.step j o ho
      have hopT : ∀ t, t ∈ opTmps o.op → sget (T j).s t = sget (sD ops V (T 0).s L ops.size) t := fun t ht => (agree t (by
        unfold tmpsOf
        simp only [List.mem_append]
        exact .inl (.inr ht))).symm
      -- the effects ahead
      have frontj : eff ops V j → (T m).h = (T j).h ∧ ∀ k, eff ops V k → (k < j + 1 ↔ (L.setIfInBounds j true).getD k false = true) := by
        intro hej
        have hmj : m ≤ j := by
          rcases Nat.lt_or_ge j m with h | h
          · have := (H.front j hej).1 h
            rw [hjL] at this; cases this
          · exact h
        have hno : ∀ k, m ≤ k → k < j → ¬ eff ops V k := by
          intro k h1 h2 he
          have := hbits k (G.total h2 he hej)
          have := (H.front k he).2 this
          omega
        refine ⟨(G.calm hmj (by omega) hno).symm, fun k hk => ?_⟩
        by_cases e : j = k
        · subst e
          exact ⟨fun _ => getD_set_self hj', fun _ => by omega⟩
        · rw [getD_set_ne' e, ← H.front k hk]
          constructor
          · intro h
            rcases Nat.lt_or_ge k m with h' | h'
            · exact h'
            · exact absurd hk (hno k h' (by omega))
          · intro h; omega
      have opw : ∀ (v : Value) (h' : AH), exOp E rec o.op (sD ops V (T 0).s L ops.size) (T m).h pair = some (v, h') → V j = some v → (∃ m', m' ≤ ops.size ∧ h' = (T m').h ∧ ∀ k, eff ops V k → (k < m' ↔ (L.setIfInBounds j true).getD k false = true)) →
          o.wp E.P a w (wpAny E.P .any ops Q fuel (L.setIfInBounds j true)) Q := by
        intro v h' hx hVj hm'
        obtain ⟨m', hm', rfl, hfr⟩ := hm'
        refine op_sound hE hrec o hx H.slots H.heap fun v2 h2 φ' u w' hc e1 e2 e3 => ?_
        injection hc with hc
        injection hc with hc1 hc2
        subst hc1; subst hc2
        exact next m' φ' u w' hm' hfr e1 e2 (by simp only [outOf, hVj]; exact e3)
      unfold wpOp
      rw [ho]
      simp only
      generalize hV : V j = vv at hst
      cases hst with
      | skip g e =>
        rw [hgv _ g]
        simp only [Bool.false_eq_true, if_false]
        refine next m φ undef w H.m_le (stay ?_) (Ext.refl ..) H.heap ?_
        · rintro ⟨o', ho', _, hv⟩
          rw [hV] at hv; cases hv
        · simp only [outOf, hV]; exact undef_rel
      | pure v g hk x e =>
        rw [hgv _ g, if_pos rfl]
        have hne : ¬ eff ops V j := by
          rintro ⟨o', ho', hef, hv⟩
          rw [ho] at ho'; injection ho' with ho'; subst ho'
          rcases hef with h | h <;> rw [hk] at h <;> cases h
        have hx2 := (pure_heap hk x).2 (T m).h
        rw [exOp_congr E rec o.op (T m).h _ hopT] at hx2
        exact .inl (opw v _ hx2 hV ⟨m, H.m_le, rfl, stay hne⟩)
      | fresh v g hk x o1 o2 g1 e =>
        rw [hgv _ g, if_pos rfl]
        have hef : eff ops V j := ⟨o, ho, .inl hk, by rw [hV]; rfl⟩
        obtain ⟨q1, q2⟩ := frontj hef
        rw [exOp_congr E rec o.op (T j).h _ hopT, ← q1] at x
        exact .inl (opw v _ x hV ⟨j + 1, by omega, rfl, q2⟩)
      | heavy v g hk x o1 o2 g1 e =>
        rw [hgv _ g, if_pos rfl]
        have hef : eff ops V j := ⟨o, ho, .inr hk, by rw [hV]; rfl⟩
        obtain ⟨q1, q2⟩ := frontj hef
        rw [exOp_congr E rec o.op (T j).h _ hopT, ← q1] at x
        exact .inl (opw v _ x hV ⟨j + 1, by omega, rfl, q2⟩)
      | read v ra1 n g hk x ra g1 g2 e =>
        rw [hgv _ g, if_pos rfl]
        have hne : ¬ eff ops V j := by
          rintro ⟨o', ho', hef, hv⟩
          rw [ho] at ho'; injection ho' with ho'; subst ho'
          rcases hef with h | h <;> rw [hk] at h <;> cases h
        obtain ⟨ra', q1, q2, q3⟩ := G.reads ho hV hk
        rw [ra] at q1
        injection q1 with q1
        subst q1
        have hsame := q3 m H.m_le (fun k h1 h2 he => by
          cases hb : (bfo ops j).testBit k with
          | false => rfl
          | true =>
            have := (H.front k he).2 (hbits k hb)
            omega) (fun k h1 h2 he => by
          cases hb : (bfo ops k).testBit j with
          | false => rfl
          | true =>
            obtain ⟨ok, hok, _, _⟩ := he
            have hkL := (H.front k ⟨ok, hok, by assumption, by assumption⟩).1 h2
            have := closed_bits H.closed k ok hok (H.closed k ok hok hkL) j hb
            rw [hjL] at this; cases this)
        have hx2 := (read_heap hk ra x).2 (T m).h hsame
        rw [exOp_congr E rec o.op (T m).h _ hopT] at hx2
        exact .inl (opw v _ hx2 hV ⟨m, H.m_le, rfl, stay hne⟩)

/-- The region's law. -/
theorem exD_sound (hE : EnvOk E) (hrec : RecOk E w0 rec) (ops : Array Oper) {id : Nat} (hok : regOk ops.toList (befs [] ops.toList) 0 ops.toList = true) {s : Slots} {h : AH} {a : Act} {w : World} {φ : Nat → Nat × Nat}
    (hx : exD E rec ops.toList (befs [] ops.toList) ops.toList 0 s h [] [] [] c = some r) (hs : SR E.P E.base φ h.length w s a) (hh : HR E.P E.base w0 φ h w)
    (hQ : ∀ s' h' φ' a' w', c s' h' = some r → Ext φ h w φ' h' w' → HR E.P E.base w0 φ' h' w' → SR E.P E.base φ' h'.length w' s' a' → Q .normal a' w') : (Code.region id ops true).wp E.P Q a w := by
  refine wp_region_any hE.mixed ?_
  obtain ⟨T, V, h0, hfin, hstep⟩ := exD_trace _ _ _ _ _ _ _ hx
  have G : Region E rec ops T V := ⟨hok, by rw [h0]; exact ⟨rfl, rfl, rfl⟩, fun k o ho => by
    have := hstep k o (by simpa using ho)
    rw [Nat.zero_add] at this
    exact this⟩
  have hlen : 0 + ops.toList.length = ops.size := by simp
  rw [hlen] at hfin
  have hT0h : (T 0).h = h := by rw [h0]
  have hT0s : (T 0).s = s := by rw [h0]
  have hrep : ∀ k, (Array.replicate ops.size false).getD k false = false := by
    intro k
    by_cases hk : k < ops.size <;> simp [hk]
  have hsD : ∀ k, sD ops V (T 0).s (Array.replicate ops.size false) k = (T 0).s := by
    intro k
    induction k with
    | zero => rfl
    | succ k ih => rw [sD_succ, hrep, if_neg (by decide), ih]
  refine any_sound (φ0 := φ) (wS := w) hE hrec G (fun φ' a' w' e1 e2 e3 => hQ _ _ φ' a' w' hfin (by rw [hT0h] at e1; exact e1) e2 e3) ops.size _ 0 φ a { w with drawn := w.drawn + 1 } ?_ ⟨by simp, ?_, Nat.zero_le _, ?_, ?_, ?_, ?_⟩
  · simp
  · intro i o ho hi
    rw [hrep] at hi; cases hi
  · intro k _
    rw [hrep]
    simp
  · exact Ext.drew ..
  · rw [hT0h]; exact hh.drew _
  · rw [hsD, hT0h, hT0s]
    exact hs.mono (fun _ _ => rfl) (Nat.le_refl _) fun _ _ hx => hx
end
end Go.Proofs.Ytgigdaijailfkaa.Am
