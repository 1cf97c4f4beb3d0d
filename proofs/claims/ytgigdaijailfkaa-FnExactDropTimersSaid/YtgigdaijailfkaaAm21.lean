/- From the abstract machine to the real one: how it begins and what comes of it.
Conditions: the tables tell the program's types; all orders are the program's. -/
import Derived.Test.YtgigdaijailfkaaAm20
set_option linter.unusedSimpArgs false
set_option linter.unusedVariables false
namespace Go.Proofs.Ytgigdaijailfkaa.Am
open Go Go.RowKit

theorem find_mem {α : Type} : ∀ {l : List (Nat × α)} {t : Nat} {i : α}, find l t = some i → (t, i) ∈ l
  | [], _, _, h => by cases h
  | (k, j) :: r, t, i, h => by
    simp only [find] at h
    cases hb : Nat.beq k t with
    | true =>
      rw [hb] at h
      injection h with h
      subst h
      rw [Nat.eq_of_beq_eq_true hb]
      exact List.mem_cons_self ..
    | false => rw [hb] at h; exact List.mem_cons_of_mem _ (find_mem h)

theorem TFact.of {P : Program} {t : Nat} {i : TI} {z : Value} {d : TypeDesc} (h : (P.info? t).map (fun f => (f.size, f.bytes, f.zero)) = some (i.ks.length, i.bytes, some z)) (hz : z.cells.toList = i.zero) (hl : i.zero.length = i.ks.length) (hf : i.zero.all flatZ = true)
    (hu : P.underlying t = some d) (hd : UFact d i) : TFact P t i where
  inf := by
    cases hi : P.info? t with
    | none => rw [hi] at h; cases h
    | some f =>
      rw [hi] at h
      simp only [Option.map_some] at h
      injection h with h
      injection h with h1 h2
      injection h2 with h2 h3
      exact ⟨f, z, rfl, h1, h2, h3, hz, hl, hf⟩
  und := ⟨d, hu, hd⟩

/-- A part of a code. -/
def subC : List Nat → Code → Code
  | [], c => c
  | 0 :: r, .seq a _ => subC r a
  | _ :: r, .seq _ b => subC r b
  | 0 :: r, .cond _ a _ => subC r a
  | _ :: r, .cond _ _ b => subC r b
  | _ :: r, .block _ a => subC r a
  | _ :: r, .loop a => subC r a
  | _, _ => .skip
def bodyC (f : Func) : Code := f.body.getD .skip

/-! ### The heap before -/
/-- What leads nowhere but to what is there. -/
def tame (n : Nat) : Value → Bool
  | .int _ _ => true
  | .bool _ => true
  | .string _ => true
  | .nilFunc => true
  | .pointer none => true
  | .pointer (some ad) => Nat.blt ad.block n && (match ad.spot with | none => true | some _ => false)
  | .slice a m c => cond (Nat.beq c 0) (Nat.beq m 0) (match a with
    | none => false
    | some ad => Nat.blt ad.block n && (match ad.spot with | none => true | some _ => false) && Nat.ble m c)
  | _ => false
def told : Value → Value
  | .slice a m c => cond (Nat.beq c 0) (.slice none 0 0) (.slice a m m)
  | v => v
def tell (n : Nat) (v : Value) : Value := cond (tame n v) (told v) .nilIface
def h0 (W : World) : AH := W.heap.toList.map fun o => match o with
  | .cells cs t _ => some ⟨cs.toList.map (tell W.heap.size), t⟩
  | _ => none
def φ0 : Nat → Nat × Nat := fun i => (i, 0)

theorem tame_rel {P : Program} {n : Nat} {w : World} {v : Value} (h : tame n v = true) : VR P n φ0 n w (told v) v := by
  cases v <;> simp only [tame] at h <;> first | (cases h; done) | skip
  case int => exact .int _ _
  case bool => exact .bool _
  case string => exact .str _
  case nilFunc => exact .nilF
  case pointer a =>
    cases a with
    | none => exact .nilp
    | some ad =>
      obtain ⟨b, o, s⟩ := ad
      simp only [Bool.and_eq_true, Nat.blt_eq] at h
      cases s with
      | some _ => cases h.2
      | none =>
        have := VR.ptr (P := P) (base := n) (φ := φ0) (n := n) (w := w) b o h.1
        simpa [φ0, told] using this
  case slice a m c =>
    cases hc : Nat.beq c 0 with
    | true =>
      rw [hc] at h
      have h1 := Nat.eq_of_beq_eq_true hc
      have h2 := Nat.eq_of_beq_eq_true h
      subst h1; subst h2
      exact .empty none 0 a fun _ h => by cases h
    | false =>
      rw [hc] at h
      simp only [cond_false] at h
      cases a with
      | none => cases h
      | some ad =>
        obtain ⟨b, o, s⟩ := ad
        simp only [Bool.and_eq_true, Nat.blt_eq] at h
        cases s with
        | some _ => cases h.1.2
        | none =>
          have := VR.slice (P := P) (base := n) (φ := φ0) (n := n) (w := w) b o m m c h.1.1 (Nat.le_of_ble_eq_true h.2) (fun hb => absurd hb (by simp only [φ0]; have := h.1.1; omega))
          simp only [told, hc, cond_false]
          simpa [φ0] using this

theorem h0_get {W : World} {i : Nat} {k : Blk} (h : hget (h0 W) i = some k) : ∃ cs fr, W.heap[i]? = some (.cells cs k.ty fr) ∧ k.cs = cs.toList.map (tell W.heap.size) := by
  rw [hget_some] at h
  simp only [h0, List.getElem?_map] at h
  cases ho : W.heap.toList[i]? with
  | none => rw [ho] at h; cases h
  | some o =>
    rw [ho] at h
    simp only [Option.map_some] at h
    injection h with h
    have ho' : W.heap[i]? = some o := by simpa using ho
    cases o <;> simp only at h <;> first | (cases h; done) | skip
    rename_i cs t fr
    injection h with h
    subst h
    exact ⟨cs, fr, ho', rfl⟩

theorem h0_rel (P : Program) (W : World) : HR P W.heap.size W φ0 (h0 W) W where
  below := Below.refl ..
  blk := fun i k hi => by
    obtain ⟨cs, fr, h1, h2⟩ := h0_get hi
    refine ⟨cs, fr, h1, fun j v hj => ?_, fun hb => ?_⟩
    · rw [h2, List.getElem?_map] at hj
      cases hc : cs.toList[j]? with
      | none => rw [hc] at hj; cases hj
      | some u =>
        rw [hc] at hj
        injection hj with hj
        refine ⟨u, by simp only [φ0, Nat.zero_add]; simpa using hc, fun hne => ?_⟩
        have hlen : (h0 W).length = W.heap.size := by simp [h0]
        rw [hlen]
        unfold tell at hj
        cases ht : tame W.heap.size u with
        | false => rw [ht] at hj; exact absurd hj.symm hne
        | true =>
          rw [ht] at hj
          rw [← hj]
          exact tame_rel ht
    · have := (Array.getElem?_eq_some_iff.1 h1).1
      omega
  inj := fun i j k l _ _ e => e
  lo := fun i hi => rfl
  len := by simp [h0]
  bw := Nat.le_refl _

theorem tell_rel {P : Program} {n : Nat} {w : World} {v : Value} (h : tame n v = true) : VR P n φ0 n w (tell n v) v := by
  unfold tell
  rw [h]
  exact tame_rel h

/-- What a law that holds comes to. -/
theorem law_of_run {E : Env} (hE : EnvOk E) {W : World} (hb : E.base = W.heap.size) {f : Nat} {args : List Value} {args' : Array Value} {h' : AH} (hl : args.length = args'.size)
    (hr : ∀ (i : Nat) (x y : Value), args[i]? = some x → args'[i]? = some y → VR E.P W.heap.size φ0 W.heap.size W x y) (hx : run E f args (h0 W) = some (.bool true, h')) :
    Calls E.P f args' W fun e W' => e = .returned (.bool true) ∧ Below W.heap.size W W' := by
  have hlen : (h0 W).length = W.heap.size := by simp [h0]
  have h1 := run_sound hE W f args (h0 W) _ _ hx φ0 W args'.toList (by rw [hb]; exact h0_rel E.P W) (by simpa using hl) (fun i x y hx hy => by rw [hb, hlen]; exact hr i x y hx (by simpa using hy))
  have e : args'.toList.toArray = args' := by simp
  rw [e] at h1
  refine h1.mono fun e W' he => ?_
  obtain ⟨u, φ', rfl, _, h2, h3⟩ := he
  cases h3
  refine ⟨rfl, ?_⟩
  have := h2.below
  rw [hb] at this
  exact this
end Go.Proofs.Ytgigdaijailfkaa.Am
