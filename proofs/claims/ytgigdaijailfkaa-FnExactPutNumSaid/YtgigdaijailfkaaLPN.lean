/- The law on PutNum holds of all bytes and all numbers.
Conditions: none. -/
import Derived.Test.YtgigdaijailfkaaPN
set_option linter.unusedSimpArgs false
set_option linter.unusedVariables false
namespace Go.Proofs.Ytgigdaijailfkaa.Am
open Go Go.RowKit

theorem blk_lt {base t : Nat} {h : AH} {a : Option Addr} {vs : List Value} (x : Own base t h a vs) {n : Nat} (hn : ∀ b, blk a b → n ≤ b) {b' : Option Addr} (hb : ∀ b, blk b' b → b < n) : ∀ b, blk b' b → ¬ blk a b :=
  fun b h1 h2 => by have := hn b h2; have := hb b h1; omega

theorem encN_length (v : Int) : (encN v).length ≤ 4 := vi_length 3 _

theorem putNum_law {base : Nat} {h : AH} {a : Option Addr} {zs : List Int} {v : Int} (hs : Sl h a (iv .u8 zs)) (hb : base ≤ h.length) :
    ∃ h', run (Et base) 4 [.slice a zs.length zs.length, .int .i64 v] h = some (.bool true, h') := by
  by_cases hbig : ((zs.length : Nat) : Int) > 1048576
  · exact ⟨h, r4 (by simp [hbig])⟩
  have hl : zs.length ≤ 1048576 := by omega
  have he := encN_length v
  have hel : (zs ++ encN v).length ≤ 140737488355328 := by simp; omega
  have a_lt : ∀ b, blk a b → zs ≠ [] → b < h.length := fun b hb' hne => sl_lt hs (by simpa [iv] using hne) hb'
  -- the reference's answer
  obtain ⟨a1, h1, e1, o1, k1, f1⟩ := toByteS_run (base := base) hs hl hb
  have l1 := k1.1
  obtain ⟨aw, h3, e3, ow, k3, fw⟩ := specPutNum_run (v := v) o1.sl (by omega) (by omega : base ≤ h1.length)
  have l3 := k3.1
  have k13 : KB NoB h h3 := KB.trans k1 k3 (fun _ _ h => h) (fun _ _ h => h)
  -- the program's
  obtain ⟨ax, h5, e5, ox, k5, fx⟩ := toByteS_run (base := base) (hs.keep k13 fun _ _ h => h.elim) hl (by omega : base ≤ h3.length)
  have l5 := k5.1
  obtain ⟨ag, h7, e7, og, k7, fg⟩ := implPutNum_run (v := v) ox.sl (by omega) (by omega : base ≤ h5.length)
  have l7 := k7.1
  have k37 : KB NoB h3 h7 := KB.trans k5 k7 (fun _ _ h => h) (fun _ _ h => h)
  have ow7 := ow.keep k37 fun _ _ h => h.elim
  have e9 := eqByteS_run (base := base) og.sl ow7.sl hel
  rw [decide_eq_true rfl] at e9
  have k07 : KB NoB h h7 := KB.trans k13 k37 (fun _ _ h => h) (fun _ _ h => h)
  obtain ⟨ay, h11, e11, oy, k11, fy⟩ := toByteS_run (base := base) (hs.keep k07 fun _ _ h => h.elim) hl (by omega : base ≤ h7.length)
  have l11 := k11.1
  have ox11 := (ox.keep k7 fun _ _ h => h.elim).keep k11 fun _ _ h => h.elim
  have e13 := eqByteS_run (base := base) ox11.sl oy.sl (by omega)
  rw [decide_eq_true rfl] at e13
  obtain ⟨h15, e15, ox15, k15⟩ := markByteS_run (k := 1) ox11 (by omega) (by omega)
  have l15 := k15.1
  -- what x0 lies apart from
  have xlo : ∀ b, blk ax b → h3.length ≤ b ∧ b < h5.length := fun b hb' => ⟨fx b hb', (ox.lt hb').2⟩
  have glo : ∀ b, blk ag b → h5.length ≤ b ∧ b < h7.length := fun b hb' => ⟨fg b hb', (og.lt hb').2⟩
  have wlo : ∀ b, blk aw b → b < h3.length := fun b hb' => (ow.lt hb').2
  have og15 := (og.keep k11 fun _ _ h => h.elim).keep k15 fun b h1 h2 => by have := xlo b h2; have := glo b h1; omega
  have ow15 := (ow7.keep k11 fun _ _ h => h.elim).keep k15 fun b h1 h2 => by have := xlo b h2; have := wlo b h1; omega
  have e18 := eqByteS_run (base := base) og15.sl ow15.sl hel
  rw [decide_eq_true rfl] at e18
  obtain ⟨h25, e25, og25, k25⟩ := markByteS_run (k := 1) og15 hel (by omega)
  have l25 := k25.1
  have e27 := heldByteS_run (base := base) (k := 1) og25.sl hel (by omega)
  have k0 : zs ≠ [] → Sl h25 a (iv .u8 zs) := fun hne => (((hs.keep k07 fun _ _ h => h.elim).keep k11 fun _ _ h => h.elim).keep k15 fun b h1 h2 => by have := xlo b h2; have := a_lt b h1 hne; omega).keep k25 fun b h1 h2 => by have := glo b h2; have := a_lt b h1 hne; omega
  have s25 : Sl h25 a (iv .u8 zs) := by
    by_cases hne : zs = []
    · exact .inl (by rw [hne]; rfl)
    · exact k0 hne
  obtain ⟨az, h29, e29, oz, k29, fz⟩ := toByteS_run (base := base) s25 hl (by omega : base ≤ h25.length)
  have l29 := k29.1
  obtain ⟨ah, h31, e31, oh, k31, fh⟩ := implPutNum_run (v := v) oz.sl (by omega) (by omega : base ≤ h29.length)
  have ow25 := ow15.keep k25 fun b h1 h2 => by have := glo b h2; have := wlo b h1; omega
  have ow31 := (ow25.keep k29 fun _ _ h => h.elim).keep k31 fun _ _ h => h.elim
  have e33 := eqByteS_run (base := base) oh.sl ow31.sl hel
  rw [decide_eq_true rfl] at e33
  have og31 := (og25.keep k29 fun _ _ h => h.elim).keep k31 fun _ _ h => h.elim
  have e35 := heldByteS_run (base := base) (k := 1) og31.sl hel (by omega)
  refine ⟨h31, r4 ?_⟩
  have n1 : ¬ (((1 + zs.length : Nat) : Int) < 0) := by omega
  have n2 : ¬ (((1 + (zs ++ encN v).length : Nat) : Int) < 0) := by omega
  have c1 : ((1 : Nat) : Int) = 1 := rfl
  rw [c1] at e15 e25 e27 e35
  simp only [hbig, decide_false, Bool.false_eq_true, if_false, e1, e3, e5, e7, e9, e11, e13, e15, e18, Option.bind_some, getS, getB, getI, if_true, Bool.not_true, n1, joinK, sget, List.tail_cons]
  simp only [e25, e27, e29, e31, e33, e35, Option.bind_some, getS, getB, getI, if_true, decide_false, Bool.false_eq_true, if_false, Bool.not_true, n2, bne_self_eq_false]
end Go.Proofs.Ytgigdaijailfkaa.Am
