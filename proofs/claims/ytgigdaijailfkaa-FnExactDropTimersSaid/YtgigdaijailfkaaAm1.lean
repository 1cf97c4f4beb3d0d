/- How the abstract machine's values and heap stand to the real ones: a number for each block, a place inside it.
Conditions: none (definitions and their movers). -/
import Derived.Test.YtgigdaijailfkaaAm0
namespace Go.Proofs.Ytgigdaijailfkaa.Am
open Go Go.RowKit

/-- An abstract value and a real one: φ tells where an abstract block lies. -/
inductive VR (P : Program) (base : Nat) (φ : Nat → Nat × Nat) (n : Nat) (w : World) : Value → Value → Prop
  | int (k : IntKind) (m : Int) : VR P base φ n w (.int k m) (.int k m)
  | bool (b : Bool) : VR P base φ n w (.bool b) (.bool b)
  | str (s : ByteArray) : VR P base φ n w (.string s) (.string s)
  | nilp : VR P base φ n w (.pointer none) (.pointer none)
  | nilF : VR P base φ n w .nilFunc .nilFunc
  | ptr (b o : Nat) (hb : b < n) : VR P base φ n w (.pointer (some ⟨b, o, none⟩)) (.pointer (some ⟨(φ b).1, (φ b).2 + o, none⟩))
  | empty (a : Option Addr) (c : Nat) (a' : Option Addr) (ha : ∀ ad, a = some ad → ad.spot = none ∧ ad.block < n) : VR P base φ n w (.slice a 0 c) (.slice a' 0 0)
  | slice (b o m c c' : Nat) (hb : b < n) (hm : m ≤ c') (hr : base ≤ (φ b).1 → ∃ e s, w.shape? (φ b).1 = some (e, s) ∧ (φ b).2 + o + c' * P.cellsOf e ≤ s) :
      VR P base φ n w (.slice (some ⟨b, o, none⟩) m c) (.slice (some ⟨(φ b).1, (φ b).2 + o, none⟩) m c')
  | agg (xs ys : Array Value) (hs : xs.size = ys.size) (h : ∀ (i : Nat) (x y : Value), xs[i]? = some x → ys[i]? = some y → VR P base φ n w x y) : VR P base φ n w (.agg xs) (.agg ys)
  | tup (xs ys : Array Value) (hs : xs.size = ys.size) (h : ∀ (i : Nat) (x y : Value), xs[i]? = some x → ys[i]? = some y → VR P base φ n w x y) : VR P base φ n w (.tuple xs) (.tuple ys)
  | func (f : Fn) (p p' q q' : Array Value) (hp : p.size = p'.size) (hpp : ∀ (i : Nat) (x y : Value), p[i]? = some x → p'[i]? = some y → VR P base φ n w x y)
      (hq : q.size = q'.size) (hqq : ∀ (i : Nat) (x y : Value), q[i]? = some x → q'[i]? = some y → VR P base φ n w x y) : VR P base φ n w (.func f p q) (.func f p' q')

/-- Shapes stay. -/
def ShapeLe (w w' : World) : Prop := ∀ b x, w.shape? b = some x → w'.shape? b = some x
theorem ShapeLe.refl (w : World) : ShapeLe w w := fun _ _ h => h
theorem ShapeLe.trans {a b c : World} (h : ShapeLe a b) (k : ShapeLe b c) : ShapeLe a c := fun i x hx => k i x (h i x hx)

theorem VR.mono {P : Program} {base : Nat} {φ φ' : Nat → Nat × Nat} {n n' : Nat} {w w' : World} {v u : Value} (h : VR P base φ n w v u)
    (hφ : ∀ b, b < n → φ' b = φ b) (hn : n ≤ n') (hw : ShapeLe w w') : VR P base φ' n' w' v u := by
  induction h with
  | int k m => exact .int k m
  | bool b => exact .bool b
  | str s => exact .str s
  | nilp => exact .nilp
  | nilF => exact .nilF
  | ptr b o hb => rw [← hφ b hb]; exact .ptr b o (Nat.lt_of_lt_of_le hb hn)
  | empty a c a' ha => exact .empty a c a' fun ad h => ⟨(ha ad h).1, Nat.lt_of_lt_of_le (ha ad h).2 hn⟩
  | slice b o m c c' hb hm hr =>
    rw [← hφ b hb] at hr ⊢
    refine .slice b o m c c' (Nat.lt_of_lt_of_le hb hn) hm fun h => ?_
    obtain ⟨e, s, h1, h2⟩ := hr h
    exact ⟨e, s, hw _ _ h1, h2⟩
  | agg xs ys hs _ ih => exact .agg xs ys hs ih
  | tup xs ys hs _ ih => exact .tup xs ys hs ih
  | func f p p' q q' hp _ hq _ ihp ihq => exact .func f p p' q q' hp ihp hq ihq

/-- The slots. -/
structure SR (P : Program) (base : Nat) (φ : Nat → Nat × Nat) (n : Nat) (w : World) (s : Slots) (a : Act) : Prop where
  len : s.length = a.tmps.size
  get : ∀ t v, sget s t = some v → VR P base φ n w v (a.tmps.getD t undef)
  defers : a.defers = []

theorem SR.mono {P : Program} {base : Nat} {φ φ' : Nat → Nat × Nat} {n n' : Nat} {w w' : World} {s : Slots} {a : Act} (h : SR P base φ n w s a)
    (hφ : ∀ b, b < n → φ' b = φ b) (hn : n ≤ n') (hw : ShapeLe w w') : SR P base φ' n' w' s a :=
  ⟨h.len, fun t v ht => (h.get t v ht).mono hφ hn hw, h.defers⟩

theorem sget_sset_self : ∀ (s : Slots) (d : Nat) (v : Option Value), d < s.length → sget (sset s d v) d = v
  | _ :: _, 0, _, _ => rfl
  | _ :: r, d + 1, v, h => sget_sset_self r d v (Nat.lt_of_succ_lt_succ h)
theorem sget_sset_ne : ∀ (s : Slots) (d t : Nat) (v : Option Value), d ≠ t → sget (sset s d v) t = sget s t
  | [], _, _, _, _ => rfl
  | _ :: _, 0, 0, _, h => absurd rfl h
  | _ :: _, 0, _ + 1, _, _ => rfl
  | _ :: _, _ + 1, 0, _, _ => rfl
  | _ :: r, d + 1, t + 1, v, h => sget_sset_ne r d t v (fun e => h (by rw [e]))
theorem sset_length : ∀ (s : Slots) (d : Nat) (v : Option Value), (sset s d v).length = s.length
  | [], _, _ => rfl
  | _ :: _, 0, _ => rfl
  | _ :: r, d + 1, v => by simp [sset, sset_length r d v]
theorem sget_lt : ∀ (s : Slots) (t : Nat) (v : Value), sget s t = some v → t < s.length
  | [], _, _, h => by simp [sget] at h
  | _ :: _, 0, _, _ => Nat.succ_pos _
  | _ :: r, t + 1, v, h => Nat.succ_lt_succ (sget_lt r t v h)

theorem SR.put {P : Program} {base : Nat} {φ : Nat → Nat × Nat} {n : Nat} {w : World} {s : Slots} {a : Act} (h : SR P base φ n w s a) (d : Option Nat) {v u : Value} (hv : VR P base φ n w v u) :
    SR P base φ n w (sput s d (some v)) (a.put d u) := by
  cases d with
  | none => exact h
  | some d =>
    refine ⟨by simp [sput, Act.put, sset_length, h.len], fun t x ht => ?_, h.defers⟩
    simp only [sput] at ht
    by_cases e : d = t
    · subst e
      have hd := sget_lt _ _ _ ht
      rw [sset_length] at hd
      rw [sget_sset_self _ _ _ hd] at ht
      injection ht with ht
      subst ht
      have : d < a.tmps.size := by rw [← h.len]; exact hd
      simpa [Act.put, this] using hv
    · rw [sget_sset_ne _ _ _ _ e] at ht
      have := h.get t x ht
      simpa [Act.put, Array.getElem?_setIfInBounds_ne e] using this

/-- A cell that isn't known is told by the nil interface: nothing looks at it. -/
def CR (P : Program) (base : Nat) (φ : Nat → Nat × Nat) (n : Nat) (w : World) (v u : Value) : Prop := v ≠ .nilIface → VR P base φ n w v u
theorem CR.mono {P : Program} {base : Nat} {φ φ' : Nat → Nat × Nat} {n n' : Nat} {w w' : World} {v u : Value} (h : CR P base φ n w v u)
    (hφ : ∀ b, b < n → φ' b = φ b) (hn : n ≤ n') (hw : ShapeLe w w') : CR P base φ' n' w' v u := fun hne => (h hne).mono hφ hn hw
/-- The heaps. -/
structure HR (P : Program) (base : Nat) (w0 : World) (φ : Nat → Nat × Nat) (h : AH) (w : World) : Prop where
  below : Below base w0 w
  blk : ∀ i k, hget h i = some k → ∃ cs fr, w.heap[(φ i).1]? = some (.cells cs k.ty fr) ∧ (∀ j v, k.cs[j]? = some v → ∃ u, cs[(φ i).2 + j]? = some u ∧ CR P base φ h.length w v u) ∧ (base ≤ i → fr = (0, 0) ∧ base ≤ (φ i).1)
  inj : ∀ i j k l, hget h i = some k → hget h j = some l → (φ i).1 = (φ j).1 → i = j
  lo : ∀ i, i < base → φ i = (i, 0)
  len : base ≤ h.length
  bw : base ≤ w.heap.size

/-- How a step goes on. -/
structure Ext (φ : Nat → Nat × Nat) (h : AH) (w : World) (φ' : Nat → Nat × Nat) (h' : AH) (w' : World) : Prop where
  len : h.length ≤ h'.length
  old : ∀ i, i < h.length → φ' i = φ i
  live : ∀ i k, hget h' i = some k → (φ' i).1 < w.heap.size → ∃ j l, hget h j = some l ∧ (φ j).1 = (φ' i).1
  frame : ∀ b, b < w.heap.size → (∀ i k, hget h i = some k → (φ i).1 ≠ b) → w'.heap[b]? = w.heap[b]?
  size : w.heap.size ≤ w'.heap.size
  shape : ShapeLe w w'

theorem hget_lt {h : AH} {i : Nat} {k : Blk} (hi : hget h i = some k) : i < h.length := by
  unfold hget at hi
  by_cases hl : i < h.length
  · exact hl
  · rw [List.getElem?_eq_none (Nat.le_of_not_lt hl)] at hi
    simp at hi

theorem Ext.refl (φ : Nat → Nat × Nat) (h : AH) (w : World) : Ext φ h w φ h w :=
  ⟨Nat.le_refl _, fun _ _ => rfl, fun i k hi _ => ⟨i, k, hi, rfl⟩, fun _ _ _ => rfl, Nat.le_refl _, ShapeLe.refl _⟩
theorem Ext.trans {φ φ1 φ2 : Nat → Nat × Nat} {h h1 h2 : AH} {w w1 w2 : World} (a : Ext φ h w φ1 h1 w1) (b : Ext φ1 h1 w1 φ2 h2 w2) : Ext φ h w φ2 h2 w2 where
  len := Nat.le_trans a.len b.len
  old := fun i hi => (b.old i (Nat.lt_of_lt_of_le hi a.len)).trans (a.old i hi)
  live := fun i k hi hlt => by
    obtain ⟨j, l, hj, e⟩ := b.live i k hi (Nat.lt_of_lt_of_le hlt a.size)
    obtain ⟨j', l', hj', e'⟩ := a.live j l hj (by rw [e]; exact hlt)
    exact ⟨j', l', hj', e'.trans e⟩
  frame := fun x hx hne => by
    rw [b.frame x (Nat.lt_of_lt_of_le hx a.size) fun i k hi e => ?_, a.frame x hx hne]
    obtain ⟨j, l, hj, e'⟩ := a.live i k hi (by rw [e]; exact hx)
    exact hne j l hj (e'.trans e)
  size := Nat.le_trans a.size b.size
  shape := a.shape.trans b.shape

theorem SR.ext {P : Program} {base : Nat} {φ φ' : Nat → Nat × Nat} {h h' : AH} {w w' : World} {s : Slots} {a : Act} (hs : SR P base φ h.length w s a) (e : Ext φ h w φ' h' w') :
    SR P base φ' h'.length w' s a := hs.mono e.old e.len e.shape
theorem VR.ext {P : Program} {base : Nat} {φ φ' : Nat → Nat × Nat} {h h' : AH} {w w' : World} {v u : Value} (hs : VR P base φ h.length w v u) (e : Ext φ h w φ' h' w') :
    VR P base φ' h'.length w' v u := hs.mono e.old e.len e.shape

/-- The draws are not looked at. -/
theorem HR.drew {P : Program} {base : Nat} {w0 : World} {φ : Nat → Nat × Nat} {h : AH} {w : World} (hh : HR P base w0 φ h w) (d : Nat) : HR P base w0 φ h { w with drawn := d } where
  below := ⟨hh.below.os, hh.below.tape, hh.below.output, hh.below.size, hh.below.block⟩
  blk := fun i k hi => by
    obtain ⟨cs, fr, h1, h2, h3⟩ := hh.blk i k hi
    exact ⟨cs, fr, h1, fun j v hj => by
      obtain ⟨u, hu, hv⟩ := h2 j v hj
      exact ⟨u, hu, hv.mono (fun _ _ => rfl) (Nat.le_refl _) fun _ _ hx => hx⟩, h3⟩
  inj := hh.inj
  lo := hh.lo
  len := hh.len
  bw := hh.bw
theorem Ext.drew (φ : Nat → Nat × Nat) (h : AH) (w : World) (d : Nat) : Ext φ h w φ h { w with drawn := d } :=
  ⟨Nat.le_refl _, fun _ _ => rfl, fun i k hi _ => ⟨i, k, hi, rfl⟩, fun _ _ _ => rfl, Nat.le_refl _, fun _ _ h => h⟩

/-! ### Types -/
theorem VR.flat {P : Program} {base : Nat} {φ : Nat → Nat × Nat} {n : Nat} {w : World} : ∀ {v : Value}, flatZ v = true → VR P base φ n w v v := by
  intro v h
  cases v with
  | int k m => exact .int k m
  | bool b => exact .bool b
  | string s => exact .str s
  | nilFunc => exact .nilF
  | pointer a => cases a with
    | none => exact .nilp
    | some a => simp [flatZ] at h
  | slice a m c => cases a with
    | none =>
      cases m with
      | zero => cases c with
        | zero => exact .empty none 0 none fun _ h => by cases h
        | succ c => simp [flatZ] at h
      | succ m => simp [flatZ] at h
    | some a => simp [flatZ] at h
  | _ => simp [flatZ] at h

/-- What a type's row says is so. -/
def UFact (d : TypeDesc) (i : TI) : Prop := match d with
  | .struct fs => i.agg = true ∧ fs.toList.map (fun f => (f.offset, f.type)) = i.fs
  | .array _ _ => i.agg = true ∧ i.fs = []
  | .slice e => i.agg = false ∧ i.elem = e ∧ i.ks = [.slice] ∧ i.fs = []
  | .int k => i.agg = false ∧ i.ks = [.int k] ∧ i.fs = []
  | .string => i.agg = false ∧ i.ks = [.str] ∧ i.fs = []
  | .bool => i.agg = false ∧ i.ks = [.bool] ∧ i.fs = []
  | .pointer _ => i.agg = false ∧ i.ks = [.ptr] ∧ i.fs = []
  | .func _ _ _ => i.agg = false ∧ i.ks = [.func] ∧ i.fs = []
  | _ => False
structure TFact (P : Program) (t : Nat) (i : TI) : Prop where
  inf : ∃ f z, P.info? t = some f ∧ f.size = i.ks.length ∧ f.bytes = i.bytes ∧ f.zero = some z ∧ z.cells.toList = i.zero ∧ i.zero.length = i.ks.length ∧ i.zero.all flatZ = true
  und : ∃ d, P.underlying t = some d ∧ UFact d i
structure EnvOk (E : Env) : Prop where
  ti : ∀ t i, E.ti t = some i → TFact E.P t i
  mixed : E.P.follows .mixedOrders = true
  fn : ∀ f rs, E.fn f = some rs → ∀ args w, (callFunc f args).run E.P w = .ok (.enter f args) w
end Go.Proofs.Ytgigdaijailfkaa.Am
