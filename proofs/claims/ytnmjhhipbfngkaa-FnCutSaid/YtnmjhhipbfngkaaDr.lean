/- What is drawn: a cursor over bytes, numbers and texts of it.
Conditions: none. -/
import Derived.Test.YtnmjhhipbfngkaaEq1
import Derived.Test.YtnmjhhipbfngkaaEq2
import Derived.Test.YtnmjhhipbfngkaaEq3
import Derived.Test.YtnmjhhipbfngkaaEq4
import Derived.Test.YtnmjhhipbfngkaaKt
import Derived.Laws.BitsLemmas
set_option linter.unusedSimpArgs false
set_option linter.unusedVariables false
namespace Go.Proofs.Ytnmjhhipbfngkaa.Am
open Go Go.RowKit

theorem and255 (m : Int) : 0 ≤ Go.bits .and .i64 m (255 : Int) ∧ Go.bits .and .i64 m (255 : Int) ≤ 255 := by
  have h : ∀ x : BitVec 64, (x &&& BitVec.ofInt 64 (255 : Int)).toNat ≤ 255 := fun x => by
    rw [BitVec.toNat_and]
    exact Nat.le_trans Nat.and_le_right (by decide)
  have h1 := h (BitVec.ofInt 64 m)
  have e : Go.bits .and .i64 m (255 : Int) = IntKind.wrap .i64 ((BitVec.ofInt 64 m &&& BitVec.ofInt 64 (255 : Int)).toNat : Int) := rfl
  rw [e, w64i (by omega) (by omega)]
  omega

/-- A cursor that can be drawn from. -/
def CurR (base cb : Nat) (h : AH) : Prop := ∃ (a : Option Addr) (zs : List Int) (i hh : Int), Own base 164 h (at0 cb) [.slice a zs.length zs.length, .int .i64 i, .int .i64 hh] ∧ Sl h a (iv .u8 zs) ∧ (zs = [] ∨ ∀ b, blk a b → b < base) ∧ zs.length ≤ 9223372036854775806 ∧ 0 ≤ i
theorem CurR.keep {base cb : Nat} {U : Nat → Prop} {h h' : AH} (x : CurR base cb h) (k : KB U h h') (hU : ∀ b, U b → base ≤ b ∧ b ≠ cb) : CurR base cb h' := by
  obtain ⟨a, zs, i, hh, o, s, hz, hl, hi⟩ := x
  refine ⟨a, zs, i, hh, o.keep k fun b hb hu => by rw [blk_at0] at hb; exact (hU b hu).2 hb, ?_, hz, hl, hi⟩
  rcases hz with e | hz
  · subst e; exact .inl rfl
  · exact s.keep k fun b hb hu => by have := hz b hb; have := (hU b hu).1; omega
theorem CurR.keepN {base cb : Nat} {h h' : AH} (x : CurR base cb h) (k : KB NoB h h') : CurR base cb h' := x.keep k fun _ h => h.elim
theorem CurR.lt {base cb : Nat} {h : AH} (x : CurR base cb h) : base ≤ cb ∧ cb < h.length := by
  obtain ⟨a, zs, i, hh, o, _⟩ := x
  exact o.lt (blk_at0.2 rfl)

theorem l1Byte_run {base cb : Nat} {h : AH} (x : CurR base cb h) : ∃ z h', run (Et base) 150 [.pointer (at0 cb)] h = some (.int .i64 z, h') ∧ 0 ≤ z ∧ z ≤ 255 ∧ CurR base cb h' ∧ KB (· = cb) h h' ∧ h'.length = h.length := by
  have hlt := x.lt
  obtain ⟨a, zs, i, hh, o, s, hz, hl, hi⟩ := x
  obtain ⟨h4, e4, o4, k4, n4⟩ := o.wr0 (i := 2) (new := [.int .i64 (IntKind.wrap .i64 ((IntKind.wrap .i64 (hh * (6364136223846793005 : Int))) + (1442695040888963407 : Int)))]) (by simp) (by simp)
  generalize hg : IntKind.wrap .i64 ((IntKind.wrap .i64 (hh * (6364136223846793005 : Int))) + (1442695040888963407 : Int)) = hn at e4 o4
  have hset : setAt [.slice a zs.length zs.length, .int .i64 i, .int .i64 hh] 2 [.int .i64 hn] = [.slice a zs.length zs.length, .int .i64 i, Value.int .i64 hn] := rfl
  rw [hset] at o4
  have s4 : Sl h4 a (iv .u8 zs) := by
    rcases hz with e | hz
    · subst e; exact .inl rfl
    · exact s.keep k4 fun b hb hu => by have := hz b hb; omega
  by_cases c : i < (zs.length : Int)
  · obtain ⟨ad, rfl, g⟩ := s4.int (i := i.toNat) (by omega)
    obtain ⟨h5, e5, o5, k5, n5⟩ := o4.wr0 (i := 1) (new := [.int .i64 (IntKind.wrap .i64 (i + 1))]) (by simp) (by simp)
    have hset : setAt [.slice (some ad) zs.length zs.length, .int .i64 i, .int .i64 hn] 1 [.int .i64 (IntKind.wrap .i64 (i + 1))] = [.slice (some ad) zs.length zs.length, .int .i64 (IntKind.wrap .i64 (i + 1)), Value.int .i64 hn] := rfl
    rw [hset] at o5
    have bz := and255 (IntKind.wrap .i64 ((Go.bits .and .i64 (Go.bits .xor .i64 (Int.fdiv hn (2 ^ min ((33 : Int)).toNat 64)) (Int.fdiv hn (2 ^ min ((47 : Int)).toNat 64))) (255 : Int)) + (IntKind.wrap .i64 zs[i.toNat])))
    refine ⟨_, h5, r150 (bs rfl (bI (o.at0 (i := 2) rfl) (bs rfl ?_))), bz.1, bz.2, ⟨_, zs, IntKind.wrap .i64 (i + 1), hn, o5, ?_, hz, hl, by rw [w64i (by omega) (by omega)]; omega⟩, KB.trans k4 k5 (fun _ _ h => h) (fun _ _ h => h), by omega⟩
    · rw [hg]
      refine bs e4 (bs rfl (bI (o4.at0 (i := 2) rfl) (bs rfl (bI (o4.at0 (i := 2) rfl) ?_))))
      refine bj (q := ([some (.int .i64 (Go.bits .and .i64 (IntKind.wrap .i64 ((Go.bits .and .i64 (Go.bits .xor .i64 (Int.fdiv hn (2 ^ min ((33 : Int)).toNat 64)) (Int.fdiv hn (2 ^ min ((47 : Int)).toNat 64))) (255 : Int)) + (IntKind.wrap .i64 zs[i.toNat]))) (255 : Int)))], h5)) ?_ (bI rfl rfl)
      refine bs rfl (bI (o4.at0 (i := 1) rfl) (bs rfl (bS (o4.at0 (i := 0) rfl) (ifT (decide_eq_true c) (bs rfl (bS (o4.at0 (i := 0) rfl) (bs rfl (bI (o4.at0 (i := 1) rfl) (ifT ⟨hi, c⟩ (bs rfl ?_))))))))))
      rw [Nat.mul_one]
      exact bs g (bs rfl (bI (o4.at0 (i := 1) rfl) (bs rfl (bs e5 rfl))))
    · rcases hz with e | hz
      · subst e; exact .inl rfl
      · exact s4.keep k5 fun b hb hu => by have := hz b hb; omega
  · have bz := and255 (Go.bits .xor .i64 (Int.fdiv hn (2 ^ min ((33 : Int)).toNat 64)) (Int.fdiv hn (2 ^ min ((47 : Int)).toNat 64)))
    refine ⟨_, h4, r150 (bs rfl (bI (o.at0 (i := 2) rfl) (bs rfl ?_))), bz.1, bz.2, ⟨_, zs, i, hn, o4, s4, hz, hl, hi⟩, k4, n4⟩
    rw [hg]
    refine bs e4 (bs rfl (bI (o4.at0 (i := 2) rfl) (bs rfl (bI (o4.at0 (i := 2) rfl) ?_))))
    refine bj (q := ([some (.int .i64 (Go.bits .and .i64 (Go.bits .xor .i64 (Int.fdiv hn (2 ^ min ((33 : Int)).toNat 64)) (Int.fdiv hn (2 ^ min ((47 : Int)).toNat 64))) (255 : Int)))], h4)) ?_ (bI rfl rfl)
    exact bs rfl (bI (o4.at0 (i := 1) rfl) (bs rfl (bS (o4.at0 (i := 0) rfl) (ifF (by simpa using c) rfl))))

theorem kC {cb : Nat} {a b c : AH} (x : KB (· = cb) a b) (y : KB (· = cb) b c) : KB (· = cb) a c := KB.trans x y (fun _ _ h => h) (fun _ _ h => h)
theorem kCN {cb : Nat} {a b c : AH} (x : KB (· = cb) a b) (y : KB NoB b c) : KB (· = cb) a c := KB.trans x y (fun _ _ h => h) (fun _ _ h => h.elim)
theorem kCF {cb : Nat} {S : Nat → Prop} {a b c : AH} (x : KB (· = cb) a b) (y : KB S b c) (hS : ∀ i, S i → a.length ≤ i) : KB (· = cb) a c := KB.trans x y (fun _ _ h => h) (fun i hi hs => by have := hS i hs; omega)

theorem l1Below_run {base cb : Nat} {h : AH} {n : Int} (x : CurR base cb h) (hn : n ≤ 256) : ∃ z h', run (Et base) 126 [.pointer (at0 cb), .int .i64 n] h = some (.int .i64 z, h') ∧ 0 ≤ z ∧ (0 < n → z < n) ∧ z ≤ 255 ∧ CurR base cb h' ∧ KB (· = cb) h h' ∧ h'.length = h.length := by
  by_cases c : n ≤ 0
  · exact ⟨0, h, r126 (ifT (decide_eq_true c) rfl), by omega, fun h => by omega, by omega, x, KB.refl _ _, rfl⟩
  · obtain ⟨z, h', e, z0, z1, x', k, l⟩ := l1Byte_run x
    have t0 := Int.tmod_nonneg n z0
    have t1 : Int.tmod z n < n := Int.tmod_lt_of_pos z (by omega)
    refine ⟨Int.tmod z n, h', r126 (ifF (by simpa using c) (ifT (decide_eq_true hn) (bs e (bI rfl (ifF (by omega) rfl))))), t0, fun _ => t1, ?_, x', k, l⟩
    have t2 := Int.tmod_eq_emod_of_nonneg (b := n) z0
    have t3 : z % n ≤ z := by
      by_cases cc : z < n
      · rw [Int.emod_eq_of_lt z0 cc]; omega
      · omega
    omega
theorem l1Once_run {base cb : Nat} {h : AH} {n : Int} (x : CurR base cb h) (hn : n ≤ 256) : ∃ b h', run (Et base) 123 [.pointer (at0 cb), .int .i64 n] h = some (.bool b, h') ∧ CurR base cb h' ∧ KB (· = cb) h h' ∧ h'.length = h.length := by
  obtain ⟨z, h', e, _, _, _, x', k, l⟩ := l1Below_run (n := n) x hn
  exact ⟨_, h', r123 (bs e (bI rfl rfl)), x', k, l⟩
theorem l1Int_run {base cb : Nat} {h : AH} {a : Option Addr} {zs : List Int} (x : CurR base cb h) (s : Sl h a (iv .i64 zs)) (ha : ∀ b, blk a b → b ≠ cb) (h0 : 0 < zs.length) (h1 : zs.length ≤ 256) : ∃ z h', run (Et base) 107 [.pointer (at0 cb), .slice a zs.length zs.length] h = some (.int .i64 z, h') ∧ z ∈ zs ∧ CurR base cb h' ∧ KB (· = cb) h h' ∧ h'.length = h.length := by
  obtain ⟨z, h', e, z0, z1, _, x', k, l⟩ := l1Below_run (n := (zs.length : Int)) x (by omega)
  have z2 := z1 (by omega)
  obtain ⟨ad, rfl, g⟩ := (s.keep k fun b hb hu => ha b hb hu).int (i := z.toNat) (by omega)
  have hz : z.toNat < zs.length := by omega
  refine ⟨zs[z.toNat], h', r107 (bs e (bI rfl (ifT ⟨z0, z2⟩ (bs rfl ?_)))), List.getElem_mem hz, x', k, l⟩
  rw [Nat.mul_one]
  exact bs g rfl
theorem l1Str_run {base cb : Nat} {h : AH} {a : Option Addr} {ss : List ByteArray} (x : CurR base cb h) (s : Sl h a (ss.map Value.string)) (ha : ∀ b, blk a b → b ≠ cb) (h0 : 0 < ss.length) (h1 : ss.length ≤ 256) : ∃ z h', run (Et base) 152 [.pointer (at0 cb), .slice a ss.length ss.length] h = some (.string z, h') ∧ z ∈ ss ∧ CurR base cb h' ∧ KB (· = cb) h h' ∧ h'.length = h.length := by
  obtain ⟨z, h', e, z0, z1, _, x', k, l⟩ := l1Below_run (n := (ss.length : Int)) x (by omega)
  have z2 := z1 (by omega)
  obtain ⟨ad, rfl, g⟩ := (s.keep k fun b hb hu => ha b hb hu).cell (i := z.toNat) (v := .string (ss[z.toNat]'(by omega))) (by simp)
  have hz : z.toNat < ss.length := by omega
  refine ⟨ss[z.toNat], h', r152 (bs e (bI rfl (ifT ⟨z0, z2⟩ (bs rfl ?_)))), List.getElem_mem hz, x', k, l⟩
  rw [Nat.mul_one]
  exact bT g rfl

theorem l1New_loop {base : Nat} {a : Option Addr} {zs : List Int} {h : AH} (hl : zs.length ≤ 9223372036854775806) (s : Sl h a (iv .u8 zs)) : ∀ (d i : Nat) (k : Int), i + d = zs.length → ∃ k', loopL (B87_0 base) [some (.slice a zs.length zs.length), some (.int .i64 k), some (.int .i64 (i : Int))] h = some (2, [some (.slice a zs.length zs.length), some (.int .i64 k')], h) := by
  intro d
  induction d with
  | zero =>
    intro i k hi
    refine ⟨k, loop_off (by decide) ?_⟩
    rw [B87_0_eq]
    refine bj (q := ([some (.slice a zs.length zs.length), some (.int .i64 k), some (.int .i64 (i : Int)), some (.bool false)], h)) (ifF (by simp; omega) rfl) ?_
    exact bS rfl (bI rfl (bI rfl (bB rfl (ifF (by decide) rfl))))
  | succ d ih =>
    intro i k hi
    by_cases c : (i : Int) < 4000
    · obtain ⟨ad, rfl, g⟩ := s.int (i := i) (by omega)
      obtain ⟨k', e⟩ := ih (i + 1) (Go.bits .and .i64 (IntKind.wrap .i64 ((IntKind.wrap .i64 ((IntKind.wrap .i64 (k * (137 : Int))) + (IntKind.wrap .i64 zs[i]))) + (11 : Int))) (1073741823 : Int)) (by omega)
      refine ⟨k', loop_on ?_ e⟩
      rw [B87_0_eq]
      refine bj (q := ([some (.slice (some ad) zs.length zs.length), some (.int .i64 k), some (.int .i64 (i : Int)), some (.bool true)], h)) (ifT (decide_eq_true (by omega)) (by rw [decide_eq_true c])) ?_
      refine bS rfl (bI rfl (bI rfl (bB rfl (ifT rfl (ifT ⟨by omega, by simp; omega⟩ (bs rfl ?_))))))
      simp only [Int.toNat_natCast, Nat.mul_one]
      refine bs g ?_
      rw [w64i (n := (i : Int) + 1) (by omega) (by omega)]
      rfl
    · refine ⟨k, loop_off (by decide) ?_⟩
      rw [B87_0_eq]
      refine bj (q := ([some (.slice a zs.length zs.length), some (.int .i64 k), some (.int .i64 (i : Int)), some (.bool false)], h)) (ifT (decide_eq_true (by omega)) (by rw [decide_eq_false c])) ?_
      exact bS rfl (bI rfl (bI rfl (bB rfl (ifF (by decide) rfl))))
theorem l1New_run {base : Nat} {h : AH} {a : Option Addr} {zs : List Int} (s : Sl h a (iv .u8 zs)) (hz : zs = [] ∨ ∀ b, blk a b → b < base) (hl : zs.length ≤ 9223372036854775806) (hb : base ≤ h.length) :
    ∃ h', run (Et base) 87 [.slice a zs.length zs.length] h = some (.pointer (at0 h.length), h') ∧ CurR base h.length h' ∧ KB NoB h h' ∧ h'.length = h.length + 1 := by
  obtain ⟨k', e⟩ := l1New_loop (base := base) hl s zs.length 0 (IntKind.wrap .i64 ((384384 : Int) + ((zs.length : Nat) : Int))) (by omega)
  rw [show ((0 : Nat) : Int) = 0 from rfl] at e
  obtain ⟨o1, k1, q1⟩ := box_own (base := base) (t := 164) (h := h) (cs := [.slice a zs.length zs.length, .int .i64 0, .int .i64 k']) hb rfl
  generalize hh1 : h ++ [some (⟨[.slice a zs.length zs.length, .int .i64 0, .int .i64 k'], 164⟩ : Blk)] = h1 at o1 k1 q1
  refine ⟨h1, r87 (bs e (ifT rfl (bS rfl (bI rfl (lets fun y ey => ?_))))), ⟨a, zs, 0, k', o1, s.keepN k1, hz, hl, by omega⟩, k1, q1⟩
  rw [hh1] at ey
  subst ey
  rfl
end Go.Proofs.Ytnmjhhipbfngkaa.Am
