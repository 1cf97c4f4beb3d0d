/- A region whose order is open: the walk over all orders.
Conditions: the tables tell the program's types; what a called function does is given; all orders are the program's. -/
import Derived.Test.YtgigdaijailfkaaAm16
set_option linter.unusedSimpArgs false
set_option linter.unusedVariables false
namespace Go.Proofs.Ytgigdaijailfkaa.Am
open Go Go.RowKit

theorem sput_length (s : Slots) (d : Option Nat) (v : Option Value) : (sput s d v).length = s.length := by
  cases d with
  | none => rfl
  | some d => exact sset_length s d v
theorem sget_sput (s : Slots) (d : Option Nat) (v : Option Value) (t : Nat) : sget (sput s d v) t = if d = some t ∧ t < s.length then v else sget s t := by
  cases d with
  | none => simp [sput]
  | some d =>
    simp only [sput]
    by_cases e : d = t
    · subst e
      by_cases hl : d < s.length
      · rw [if_pos ⟨rfl, hl⟩, sget_sset_self _ _ _ hl]
      · rw [if_neg (fun h => hl h.2)]
        have : ∀ (s : Slots) (d : Nat) (v : Option Value), ¬ d < s.length → sset s d v = s := by
          intro s
          induction s with
          | nil => intro d v _; rfl
          | cons x r ih =>
            intro d v h
            cases d with
            | zero => simp at h
            | succ d => simp only [sset]; rw [ih d v (fun q => h (by simp; omega))]
        rw [this s d v hl]
    · rw [if_neg (fun h => e (by injection h.1)), sget_sset_ne _ _ _ _ e]
theorem SR.congr {P : Program} {base : Nat} {φ : Nat → Nat × Nat} {n : Nat} {w : World} {s s' : Slots} {a : Act} (h : SR P base φ n w s a) (hl : s'.length = s.length) (hg : ∀ t, sget s' t = sget s t) : SR P base φ n w s' a :=
  ⟨hl.trans h.len, fun t v ht => h.get t v (by rw [← hg]; exact ht), h.defers⟩

section
variable {R : Type} {E : Env} {w0 : World} {Q : Exit → Act → World → Prop} {r : R} {rec : Rec} {ops : Array Oper} {T : Nat → St} {V : Nat → Option Value}

def isEff (o : Op) : Prop := cl o = .fresh ∨ cl o = .heavy
/-- An operation that does something to the heap, and is carried out. -/
def eff (ops : Array Oper) (V : Nat → Option Value) (j : Nat) : Prop := ∃ o, ops[j]? = some o ∧ isEff o.op ∧ (V j).isSome = true
def dstOf (ops : Array Oper) (j : Nat) : Option Nat := (ops[j]?).bind (·.dst)
def outOf (V : Nat → Option Value) (j : Nat) : Value := (V j).getD undef
def sD (ops : Array Oper) (V : Nat → Option Value) (s0 : Slots) (L : Array Bool) : Nat → Slots
  | 0 => s0
  | k + 1 => if L.getD k false = true then sput (sD ops V s0 L k) (dstOf ops k) (some (outOf V k)) else sD ops V s0 L k

theorem sD_succ (s0 : Slots) (L : Array Bool) (k : Nat) : sD ops V s0 L (k + 1) = if L.getD k false = true then sput (sD ops V s0 L k) (dstOf ops k) (some (outOf V k)) else sD ops V s0 L k := rfl
theorem sD_length (s0 : Slots) (L : Array Bool) : ∀ k, (sD ops V s0 L k).length = s0.length
  | 0 => rfl
  | k + 1 => by
    simp only [sD]
    split
    · rw [sput_length]; exact sD_length s0 L k
    · exact sD_length s0 L k

structure Region (E : Env) (rec : Rec) (ops : Array Oper) (T : Nat → St) (V : Nat → Option Value) : Prop where
  ok : regOk ops.toList (befs [] ops.toList) 0 ops.toList = true
  start : (T 0).hi = [] ∧ (T 0).pe = [] ∧ (T 0).an = []
  step : ∀ k o, ops[k]? = some o → StepV E rec ops.toList ((befs [] ops.toList).getD k 0) k o (T k) (T (k + 1)) (V k)

abbrev bfo (ops : Array Oper) (j : Nat) : Nat := (befs [] ops.toList).getD j 0

theorem Region.edge (G : Region E rec ops T V) {j : Nat} {o : Oper} (ho : ops[j]? = some o) : ∀ e ∈ o.after.toList, bindsAny e = true → e.on < j := by
  have := (regOk_spec ops.toList 0 G.ok j o (by simpa using ho)).1
  rw [Nat.zero_add] at this
  exact edgesOk_spec this
theorem Region.pairs (G : Region E rec ops T V) {i j : Nat} {oi oj : Oper} (hij : i < j) (hi : ops[i]? = some oi) (hj : ops[j]? = some oj) : pairOk ops.toList (bfo ops j) i oi oj = true := by
  have := (regOk_spec ops.toList 0 G.ok j oj (by simpa using hj)).2
  rw [Nat.zero_add] at this
  have h2 := pairsOk_spec _ 0 this i oi (by rw [List.getElem?_take_of_lt hij]; simpa using hi)
  rw [Nat.zero_add] at h2
  exact h2
theorem Region.fills (G : Region E rec ops T V) {i j : Nat} {oi oj : Oper} (hij : i < j) (hi : ops[i]? = some oi) (hj : ops[j]? = some oj) :
    (∀ t, oi.dst = some t → t ∈ tmpsOf ops.toList oj → (bfo ops j).testBit i = true) ∧ (∀ t, oj.dst = some t → t ∈ tmpsOf ops.toList oi → (bfo ops j).testBit i = true) := by
  have h := G.pairs hij hi hj
  unfold pairOk at h
  simp only [Bool.or_eq_true, Bool.and_eq_true] at h
  constructor
  · intro t ht hm
    rcases h with h | ⟨h, _⟩
    · exact h
    · rw [ht] at h
      simp only at h
      rw [memN_of hm] at h
      cases h
  · intro t ht hm
    rcases h with h | ⟨_, h⟩
    · exact h
    · rw [ht] at h
      simp only at h
      rw [memN_of hm] at h
      cases h

theorem Region.slots (G : Region E rec ops T V) {k : Nat} (hk : k < ops.size) : (T (k + 1)).s = sput (T k).s (dstOf ops k) (some (outOf V k)) := by
  have ho : ops[k]? = some ops[k] := Array.getElem?_eq_getElem hk
  have hd : dstOf ops k = ops[k].dst := by simp [dstOf, ho]
  rw [hd]
  have := G.step k _ ho
  generalize hv : V k = v at this
  cases this <;> (rename_i e; rw [e]; simp [outOf, hv])
theorem Region.heap (G : Region E rec ops T V) {k : Nat} (hk : k < ops.size) (hne : ¬ eff ops V k) : (T (k + 1)).h = (T k).h := by
  have ho : ops[k]? = some ops[k] := Array.getElem?_eq_getElem hk
  have := G.step k _ ho
  have hne' : ∀ v, V k = some v → ¬ isEff ops[k].op := fun v hv he => hne ⟨_, ho, he, by rw [hv]; rfl⟩
  generalize hv : V k = v at this
  cases this with
  | skip g e => rw [e]
  | pure v g hk x e => exact (pure_heap hk x).1
  | fresh v g hk x o1 o2 g1 e => exact absurd (.inl hk) (hne' v hv)
  | read v a n g hk x ra g1 g2 e => exact (read_heap hk ra x).1
  | heavy v g hk x o1 o2 g1 e => exact absurd (.inr hk) (hne' v hv)
/-- The lists grow. -/
theorem Region.lists (G : Region E rec ops T V) {k : Nat} (hk : k < ops.size) : (∀ x, x ∈ (T k).hi → x ∈ (T (k + 1)).hi) ∧ (∀ x, x ∈ (T k).pe → x ∈ (T (k + 1)).pe) ∧ (∀ x, x ∈ (T k).an → x ∈ (T (k + 1)).an) := by
  have ho : ops[k]? = some ops[k] := Array.getElem?_eq_getElem hk
  have := G.step k _ ho
  generalize hv : V k = v at this
  cases this <;> (rename_i e; rw [e]; refine ⟨fun x hx => ?_, fun x hx => ?_, fun x hx => ?_⟩ <;> first | exact hx | exact List.mem_cons_of_mem _ hx)
theorem Region.lists_le (G : Region E rec ops T V) {i j : Nat} (hij : i ≤ j) (hj : j ≤ ops.size) : (∀ x, x ∈ (T i).hi → x ∈ (T j).hi) ∧ (∀ x, x ∈ (T i).pe → x ∈ (T j).pe) ∧ (∀ x, x ∈ (T i).an → x ∈ (T j).an) := by
  induction hij with
  | refl => exact ⟨fun _ h => h, fun _ h => h, fun _ h => h⟩
  | @step q hle ih =>
    obtain ⟨a, b, c⟩ := ih (by omega)
    obtain ⟨a', b', c'⟩ := G.lists (k := q) (by omega)
    exact ⟨fun x h => a' x (a x h), fun x h => b' x (b x h), fun x h => c' x (c x h)⟩
/-- Of two that do something the earlier comes first in every order. -/
theorem Region.total (G : Region E rec ops T V) {i j : Nat} (hij : i < j) (hi : eff ops V i) (hj : eff ops V j) : (bfo ops j).testBit i = true := by
  obtain ⟨oi, hoi, hei, hvi⟩ := hi
  obtain ⟨oj, hoj, hej, hvj⟩ := hj
  have hjs : j < ops.size := (Array.getElem?_eq_some_iff.1 hoj).1
  have hb : allBef (bfo ops j) (T j).hi = true ∧ allBef (bfo ops j) (T j).an = true := by
    have := G.step j _ hoj
    generalize hv : V j = v at this
    cases this with
    | skip g e => rw [hv] at hvj; cases hvj
    | pure v g hk x e => rcases hej with h | h <;> rw [hk] at h <;> cases h
    | fresh v g hk x o1 o2 g1 e => exact ⟨o1, o2⟩
    | read v a n g hk x ra g1 g2 e => rcases hej with h | h <;> rw [hk] at h <;> cases h
    | heavy v g hk x o1 o2 g1 e => exact ⟨o1, o2⟩
  have hm : (∃ x, (i, x) ∈ (T (i + 1)).hi) ∨ (∃ x, (i, x) ∈ (T (i + 1)).an) := by
    have := G.step i _ hoi
    generalize hv : V i = v at this
    cases this with
    | skip g e => rw [hv] at hvi; cases hvi
    | pure v g hk x e => rcases hei with h | h <;> rw [hk] at h <;> cases h
    | fresh v g hk x o1 o2 g1 e => rw [e]; exact .inr ⟨_, List.mem_cons_self ..⟩
    | read v a n g hk x ra g1 g2 e => rcases hei with h | h <;> rw [hk] at h <;> cases h
    | heavy v g hk x o1 o2 g1 e => rw [e]; exact .inl ⟨_, List.mem_cons_self ..⟩
  obtain ⟨l1, l2, l3⟩ := G.lists_le (i := i + 1) (j := j) (by omega) (by omega)
  rcases hm with ⟨x, hm⟩ | ⟨x, hm⟩
  · exact allBef_mem hb.1 i x (l1 _ hm)
  · exact allBef_mem hb.2 i x (l3 _ hm)
/-- Heaps between two steps without anything done. -/
theorem Region.calm (G : Region E rec ops T V) {i j : Nat} (hij : i ≤ j) (hj : j ≤ ops.size) (hne : ∀ k, i ≤ k → k < j → ¬ eff ops V k) : (T j).h = (T i).h := by
  induction hij with
  | refl => rfl
  | step hle ih =>
    rw [G.heap (by omega) (hne _ hle (by omega)), ih (by omega) fun k h1 h2 => hne k h1 (by omega)]

theorem hget_push_ne {h : AH} {x : Option Blk} {b : Nat} (hb : b ≠ h.length) : hget (h ++ [x]) b = hget h b := by
  rcases Nat.lt_or_gt_of_ne hb with h1 | h1
  · exact hget_append_lt h1
  · rw [hget_append_ge h1]
    unfold hget
    rw [List.getElem?_eq_none (by omega)]; rfl
theorem same_push {h : AH} {x : Option Blk} {b o n : Nat} (hb : b ≠ h.length) : same h (h ++ [x]) b o n :=
  ⟨fun j _ => by simp only [cell, hget_push_ne hb], by rw [hget_push_ne hb]⟩

/-- What a reading finds it finds at any time that the order leaves open. -/
theorem Region.reads (G : Region E rec ops T V) {j : Nat} {oj : Oper} (hoj : ops[j]? = some oj) {v : Value} (hv : V j = some v) (hk : cl oj.op = .read) :
    ∃ ra, readAt E (T j).s oj.op = some ra ∧ exOp E rec oj.op (T j).s (T j).h pair = some (v, (T (j + 1)).h) ∧ ∀ m, m ≤ ops.size → (∀ k, m ≤ k → k < j → eff ops V k → (bfo ops j).testBit k = false) → (∀ k, j < k → k < m → eff ops V k → (bfo ops k).testBit j = false) →
      sameA (T j).h (T m).h ra.1 ra.2 := by
  have hjs : j < ops.size := (Array.getElem?_eq_some_iff.1 hoj).1
  have hst := G.step j _ hoj
  rw [hv] at hst
  cases hst with
  | pure v g hk' x e => rw [hk] at hk'; cases hk'
  | fresh v g hk' x o1 o2 g1 e => rw [hk] at hk'; cases hk'
  | heavy v g hk' x o1 o2 g1 e => rw [hk] at hk'; cases hk'
  | read v a n g hk' x ra g1 g2 e =>
    refine ⟨_, ra, x, fun m hm h1 h2 ad had => ?_⟩
    simp only at had ⊢
    subst had
    have hjj : (T (j + 1)).h = (T j).h := (read_heap hk' ra x).1
    by_cases hmj : m ≤ j
    · -- before
      have key : ∀ d m, m + d = j → (∀ k, m ≤ k → k < j → eff ops V k → (bfo ops j).testBit k = false) → same (T m).h (T j).h ad.block ad.off n := by
        intro d
        induction d with
        | zero => intro m hm _; rw [show m = j from by omega]; exact same_refl ..
        | succ d ih =>
          intro m hm hb
          have hms : m < ops.size := by omega
          have hom : ops[m]? = some ops[m] := Array.getElem?_eq_getElem hms
          by_cases he : eff ops V m
          · have hbit := hb m (Nat.le_refl _) (by omega) he
            obtain ⟨o', ho', hef, hvm⟩ := he
            have hstm := G.step m _ ho'
            obtain ⟨l1, l2, l3⟩ := G.lists_le (i := m + 1) (j := j) (by omega) (by omega)
            generalize hvv : V m = vv at hstm
            cases hstm with
            | skip g e => rw [hvv] at hvm; cases hvm
            | pure v g hk x e => rcases hef with h | h <;> rw [hk] at h <;> cases h
            | read v a n g hk x ra g1 g2 e => rcases hef with h | h <;> rw [hk] at h <;> cases h
            | heavy v g hk x o1 o2 g1' e => exact g2 m _ (l1 _ (by rw [e]; exact List.mem_cons_self ..)) hbit ad rfl
            | fresh v g hk x o1 o2 g1' e =>
              have hne := g1 m _ (l3 _ (by rw [e]; exact List.mem_cons_self ..)) hbit ad rfl
              obtain ⟨kk, hkk⟩ := fresh_heap hk x
              refine same_trans (b := (T (m + 1)).h) ?_ (ih (m + 1) (by omega) fun k h1 h2 => hb k (by omega) h2)
              rw [hkk]
              exact same_push hne
          · rw [← G.heap hms he]
            exact ih (m + 1) (by omega) fun k h1 h2 => hb k (by omega) h2
      exact same_symm (key (j - m) m (by omega) h1)
    · -- after
      have key : ∀ d m, m = j + 1 + d → m ≤ ops.size → (∀ k, j < k → k < m → eff ops V k → (bfo ops k).testBit j = false) → same (T j).h (T m).h ad.block ad.off n := by
        intro d
        induction d with
        | zero => intro m hm _ _; rw [hm, Nat.add_zero, hjj]; exact same_refl ..
        | succ d ih =>
          intro m hm hms hb
          have hlt : j + 1 + d < ops.size := by omega
          have ihd := ih (j + 1 + d) rfl (by omega) fun k h1 h2 => hb k h1 (by omega)
          rw [show m = j + 1 + d + 1 from by omega]
          by_cases he : eff ops V (j + 1 + d)
          · have hbit := hb (j + 1 + d) (by omega) (by omega) he
            obtain ⟨o', ho', hef, hvm⟩ := he
            have hstm := G.step _ _ ho'
            obtain ⟨l1, l2, l3⟩ := G.lists_le (i := j + 1) (j := j + 1 + d) (by omega) (by omega)
            have hmem : (j, some ad, n) ∈ (T (j + 1 + d)).pe := l2 _ (by rw [e]; exact List.mem_cons_self ..)
            refine same_trans ihd ?_
            generalize hvv : V (j + 1 + d) = vv at hstm
            cases hstm with
            | skip g e => rw [hvv] at hvm; cases hvm
            | pure v g hk x e => rcases hef with h | h <;> rw [hk] at h <;> cases h
            | read v a n g hk x ra g1 g2 e => rcases hef with h | h <;> rw [hk] at h <;> cases h
            | heavy v g hk x o1 o2 g1' e => exact g1' _ _ _ hmem hbit ad rfl
            | fresh v g hk x o1 o2 g1' e =>
              have hne := g1' _ _ _ hmem hbit ad rfl
              obtain ⟨kk, hkk⟩ := fresh_heap hk x
              rw [hkk]
              exact same_push hne
          · rw [G.heap hlt he]
            exact ihd
      exact key (m - (j + 1)) m (by omega) hm h2

/-! ### The orders -/
def Closed (ops : Array Oper) (L : Array Bool) : Prop := ∀ i o, ops[i]? = some o → L.getD i false = true → ∀ e ∈ o.after.toList, bindsAny e = true → L.getD e.on false = true
theorem closed_bits {L : Array Bool} (hC : Closed ops L) : ∀ (j : Nat) (o : Oper), ops[j]? = some o → (∀ e ∈ o.after.toList, bindsAny e = true → L.getD e.on false = true) → ∀ x, (bfo ops j).testBit x = true → L.getD x false = true := by
  intro j
  induction j using Nat.strongRecOn with
  | _ j ih =>
    intro o ho he x hx
    obtain ⟨e, h1, h2, h3⟩ := bf_bit (l := ops.toList) (by simpa using ho) hx
    rcases h3 with rfl | ⟨hlt, h3⟩
    · exact he e h1 h2
    · cases hoe : ops[e.on]? with
      | none =>
        have : (bfo ops e.on) = 0 := by
          unfold bfo
          rw [List.getD_eq_getElem?_getD]
          have hlen : ∀ (l : List Oper) (acc : List Nat), (befs acc l).length = acc.length + l.length := by
            intro l
            induction l with
            | nil => intro acc; simp [befs]
            | cons o l ih => intro acc; simp only [befs]; rw [ih]; simp; omega
          have hge : ops.size ≤ e.on := by
            rcases Nat.lt_or_ge e.on ops.size with h | h
            · rw [Array.getElem?_eq_getElem h] at hoe; cases hoe
            · exact h
          rw [List.getElem?_eq_none (by rw [hlen]; simpa using hge)]
          rfl
        rw [show (befs [] ops.toList).getD e.on 0 = 0 from this] at h3
        simp at h3
      | some oe => exact ih e.on hlt oe hoe (hC e.on oe hoe (he e h1 h2)) x h3

theorem sD_agree (G : Region E rec ops T V) {L : Array Bool} (hC : Closed ops L) {j : Nat} {o : Oper} (ho : ops[j]? = some o) (hj : L.getD j false = false) (hb : ∀ x, (bfo ops j).testBit x = true → L.getD x false = true) {t : Nat} (ht : t ∈ tmpsOf ops.toList o) :
    sget (sD ops V (T 0).s L ops.size) t = sget (T j).s t := by
  have hjs : j < ops.size := (Array.getElem?_eq_some_iff.1 ho).1
  have len : ∀ k, k ≤ ops.size → (T k).s.length = (T 0).s.length := by
    intro k
    induction k with
    | zero => intro _; rfl
    | succ k ih => intro hk; rw [G.slots (by omega), sput_length]; exact ih (by omega)
  have h1 : ∀ k, k ≤ j → sget (sD ops V (T 0).s L k) t = sget (T k).s t := by
    intro k
    induction k with
    | zero => intro _; rfl
    | succ k ih =>
      intro hk
      have hks : k < ops.size := by omega
      have hok : ops[k]? = some ops[k] := Array.getElem?_eq_getElem hks
      have hd : dstOf ops k = ops[k].dst := by simp [dstOf, hok]
      rw [G.slots hks, sget_sput]
      by_cases hw : dstOf ops k = some t
      · have := hb k ((G.fills (by omega) hok ho).1 t (by rw [← hd]; exact hw) ht)
        simp only [sD]
        rw [if_pos this, sget_sput, sD_length, len k (by omega), ih (by omega)]
      · rw [if_neg (fun h => hw h.1)]
        simp only [sD]
        split
        · rw [sget_sput, if_neg (fun h => hw h.1)]; exact ih (by omega)
        · exact ih (by omega)
  have h2 : ∀ d, j + d ≤ ops.size → sget (sD ops V (T 0).s L (j + d)) t = sget (T j).s t := by
    intro d
    induction d with
    | zero => intro _; exact h1 j (Nat.le_refl _)
    | succ d ih =>
      intro hk
      have hks : j + d < ops.size := by omega
      have hok : ops[j + d]? = some ops[j + d] := Array.getElem?_eq_getElem hks
      have hd : dstOf ops (j + d) = ops[j + d].dst := by simp [dstOf, hok]
      rw [show j + (d + 1) = j + d + 1 from rfl, sD_succ]
      split
      · rename_i hl
        rw [sget_sput, if_neg]
        · exact ih (by omega)
        · rintro ⟨hw, _⟩
          rcases Nat.eq_zero_or_pos d with rfl | hd0
          · rw [Nat.add_zero, hj] at hl; cases hl
          · have hbit := (G.fills (i := j) (j := j + d) (by omega) ho hok).2 t (by rw [← hd]; exact hw) ht
            have := closed_bits hC (j + d) _ hok (hC (j + d) _ hok hl) j hbit
            rw [hj] at this; cases this
      · exact ih (by omega)
  have := h2 (ops.size - j) (by omega)
  rw [show j + (ops.size - j) = ops.size from by omega] at this
  exact this

theorem getD_set_self {L : Array Bool} {j : Nat} (h : j < L.size) : (L.setIfInBounds j true).getD j false = true := by
  simp [h]
theorem getD_set_ne' {L : Array Bool} {i j : Nat} (h : i ≠ j) : (L.setIfInBounds i true).getD j false = L.getD j false := by
  simp [Array.getElem?_setIfInBounds_ne h]

theorem sD_set (G : Region E rec ops T V) {L : Array Bool} (hL : L.size = ops.size) (hC : Closed ops L) {j : Nat} {o : Oper} (ho : ops[j]? = some o) (hj : L.getD j false = false) (t : Nat) :
    sget (sD ops V (T 0).s (L.setIfInBounds j true) ops.size) t = sget (sput (sD ops V (T 0).s L ops.size) o.dst (some (outOf V j))) t := by
  have hjs : j < ops.size := (Array.getElem?_eq_some_iff.1 ho).1
  have hdj : dstOf ops j = o.dst := by simp [dstOf, ho]
  have h1 : ∀ k, k ≤ j → sD ops V (T 0).s (L.setIfInBounds j true) k = sD ops V (T 0).s L k := by
    intro k
    induction k with
    | zero => intro _; rfl
    | succ k ih =>
      intro hk
      simp only [sD]
      rw [getD_set_ne' (by omega), ih (by omega)]
  have h2 : ∀ d, j + 1 + d ≤ ops.size → ∀ t, sget (sD ops V (T 0).s (L.setIfInBounds j true) (j + 1 + d)) t = sget (sput (sD ops V (T 0).s L (j + 1 + d)) o.dst (some (outOf V j))) t := by
    intro d
    induction d with
    | zero =>
      intro _ t
      simp only [Nat.add_zero, sD]
      rw [if_pos (getD_set_self (by omega)), h1 j (Nat.le_refl _), hj, if_neg (by decide), hdj]
    | succ d ih =>
      intro hk t
      have hks : j + 1 + d < ops.size := by omega
      have hok : ops[j + 1 + d]? = some ops[j + 1 + d] := Array.getElem?_eq_getElem hks
      have hd : dstOf ops (j + 1 + d) = ops[j + 1 + d].dst := by simp [dstOf, hok]
      rw [show j + 1 + (d + 1) = j + 1 + d + 1 from rfl, sD_succ, sD_succ, getD_set_ne' (by omega)]
      split
      · rename_i hl
        rw [sget_sput, sget_sput, sget_sput, sD_length, sput_length, sD_length, ih (by omega) t, sget_sput, sD_length]
        by_cases hw : dstOf ops (j + 1 + d) = some t
        · have hne : o.dst ≠ some t := by
            intro he
            have hm : t ∈ tmpsOf ops.toList o := by simp [tmpsOf, he]
            have hbit := (G.fills (i := j) (j := j + 1 + d) (by omega) ho hok).2 t (by rw [← hd]; exact hw) hm
            have := closed_bits hC (j + 1 + d) _ hok (hC (j + 1 + d) _ hok hl) j hbit
            rw [hj] at this; cases this
          have e1 : ¬ (o.dst = some t ∧ t < (T 0).s.length) := fun h => hne h.1
          simp only [e1, if_false]
        · have e2 : ¬ (dstOf ops (j + 1 + d) = some t ∧ t < (T 0).s.length) := fun h => hw h.1
          simp only [e2, if_false]
      · exact ih (by omega) t
  have := h2 (ops.size - (j + 1)) (by omega) t
  rw [show j + 1 + (ops.size - (j + 1)) = ops.size from by omega] at this
  exact this
end
end Go.Proofs.Ytgigdaijailfkaa.Am
