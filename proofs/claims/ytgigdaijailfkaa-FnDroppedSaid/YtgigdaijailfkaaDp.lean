/- The law Dropped: behind a drop no timer is of that Pid; those of others are all there.
Conditions: none. -/
import Derived.Test.YtgigdaijailfkaaBe
set_option linter.unusedSimpArgs false
set_option linter.unusedVariables false
namespace Go.Proofs.Ytgigdaijailfkaa.Am
open Go Go.RowKit

theorem filter_at {q : Sd → Bool} {l : List Sd} {i : Nat} (hi : i < l.length) (c : q l[i] = true) : ∃ h : ((l.take i).filter q).length < (l.filter q).length, (l.filter q)[((l.take i).filter q).length] = l[i] := by
  have e : l.filter q = (l.take i).filter q ++ l[i] :: (l.drop (i + 1)).filter q := by
    rw [← List.filter_cons_of_pos c, ← List.drop_eq_getElem_cons hi, ← List.filter_append, List.take_append_drop]
  have hlt : ((l.take i).filter q).length < (l.filter q).length := by rw [e]; simp
  refine ⟨hlt, ?_⟩
  have : (l.filter q)[((l.take i).filter q).length]? = some l[i] := by rw [e]; simp
  rw [List.getElem?_eq_getElem hlt] at this
  injection this
theorem dropped_loop {base f f2 cn : Nat} {p p2 : Nat → Prop} {l : List Sd} {al am ca : Option Addr} {v : Int} (hl : l.length ≤ 1048576) : ∀ (d i : Nat) (h : AH), i + d = l.length → SsR h p f l al → SsR h p2 f2 (l.filter (qdrop v)) am → base ≤ h.length →
    ∃ h', loopL (B13_0 base) [some (.slice ca cn cn), some (.slice al l.length l.length), some (.int .i64 v), some (.slice am (l.filter (qdrop v)).length (l.filter (qdrop v)).length), some (.int .i64 ((((l.take i).filter (qdrop v)).length : Nat) : Int)), some (.int .i64 (i : Int))] h =
      some (2, [some (.slice ca cn cn), some (.slice am (l.filter (qdrop v)).length (l.filter (qdrop v)).length), some (.int .i64 (((l.filter (qdrop v)).length : Nat) : Int))], h') ∧ KB NoB h h' := by
  intro d
  induction d with
  | zero =>
    intro i h hi hs hs2 hb
    refine ⟨h, loop_off (by decide) ?_, KB.refl _ _⟩
    rw [List.take_of_length_le (by omega), B13_0_eq]
    exact ifF (by simp; omega) rfl
  | succ d ih =>
    intro i h hi hs hs2 hb
    have hlt : i < l.length := by omega
    have hfl := filter_le (q := qdrop v) (l := l) (i := i)
    obtain ⟨ad, k, n, s, a2, m, rfl, _, g0, g1, g2, g3, g4, g5, hm⟩ := hs.get hlt
    by_cases c : qdrop v l[i] = true
    · have fs : (l.take (i + 1)).filter (qdrop v) = (l.take i).filter (qdrop v) ++ [l[i]] := by rw [filter_snoc hlt, if_pos c]
      have lensnoc : ((l.take (i + 1)).filter (qdrop v)).length = ((l.take i).filter (qdrop v)).length + 1 := by rw [fs]; simp
      obtain ⟨hlt2, hget⟩ := filter_at hlt c
      obtain ⟨ad2, k', n', s', a2', m', rfl, _, y0, y1, y2, y3, y4, y5, hm2⟩ := hs2.get hlt2
      rw [hget] at y0 y1 hm2
      obtain ⟨h1, e1, k1⟩ := sameT_run (base := base) f2 f h p2 p l[i].t _ _ hm2 hm hb
      have n1 := k1.1
      obtain ⟨h2, e2, k2⟩ := ih (i + 1) h1 (by omega) (hs.keep k1 fun _ _ h => h) (hs2.keep k1 fun _ _ h => h) (by omega)
      refine ⟨h2, loop_on ?_ e2, kN k1 k2⟩
      have hI : (0 : Int) ≤ (i : Int) ∧ (i : Int) < ((l.length : Nat) : Int) := ⟨by omega, by omega⟩
      have hN : (0 : Int) ≤ ((((l.take i).filter (qdrop v)).length : Nat) : Int) ∧ ((((l.take i).filter (qdrop v)).length : Nat) : Int) < (((l.filter (qdrop v)).length : Nat) : Int) := ⟨by omega, by omega⟩
      rw [B13_0_eq]
      refine ifT (decide_eq_true (by omega)) ?_
      refine bj (q := ([some (.slice ca cn cn), some (.slice (some ad) l.length l.length), some (.int .i64 v), some (.slice (some ad2) (l.filter (qdrop v)).length (l.filter (qdrop v)).length), some (.int .i64 ((((l.take (i + 1)).filter (qdrop v)).length : Nat) : Int)), some (.int .i64 (i : Int))], h1)) ?_ ?_
      · refine ifT hI (bs rfl ?_)
        simp only [Int.toNat_natCast]
        refine bI g1 (ifT c ?_)
        refine bj (q := ([some (.slice ca cn cn), some (.slice (some ad) l.length l.length), some (.int .i64 v), some (.slice (some ad2) (l.filter (qdrop v)).length (l.filter (qdrop v)).length), some (.int .i64 ((((l.take i).filter (qdrop v)).length : Nat) : Int)), some (.int .i64 (i : Int)), some (.bool false)], h1)) ?_ ?_
        · refine ifF (by simp; omega) (ifT hN (bs rfl (bI y1 (ifT hI (bs rfl (bI g1 (ifF (by simp) ?_)))))))
          refine ifT hN (bs rfl (bI y0 (ifT hI (bs rfl (bI g0 (ifF (by simp) ?_))))))
          refine ifT hN (bs rfl (bI y2 (bI y3 (bT y4 (bS y5 (ifT hI (bs rfl ?_)))))))
          exact bI g2 (bI g3 (bT g4 (bS g5 (bs e1 (bB rfl rfl)))))
        · refine bS rfl (bS rfl (bI rfl (bS rfl (bI rfl (bI rfl (bB rfl (ifF (by decide) ?_)))))))
          rw [w64i (by omega) (by omega), lensnoc]
          rfl
      · refine bS rfl (bS rfl (bI rfl (bS rfl (bI rfl (bI rfl ?_)))))
        rw [w64i (by omega) (by omega), show ((i : Int) + 1) = ((i + 1 : Nat) : Int) from by omega]
    · have fs : (l.take (i + 1)).filter (qdrop v) = (l.take i).filter (qdrop v) := by rw [filter_snoc hlt, if_neg c]; simp
      obtain ⟨h2, e2, k2⟩ := ih (i + 1) h (by omega) hs hs2 hb
      refine ⟨h2, loop_on ?_ e2, k2⟩
      rw [B13_0_eq]
      refine ifT (decide_eq_true (by omega)) ?_
      refine bj (q := ([some (.slice ca cn cn), some (.slice (some ad) l.length l.length), some (.int .i64 v), some (.slice am (l.filter (qdrop v)).length (l.filter (qdrop v)).length), some (.int .i64 ((((l.take i).filter (qdrop v)).length : Nat) : Int)), some (.int .i64 (i : Int))], h)) ?_ ?_
      · refine ifT ⟨by omega, by omega⟩ (bs rfl ?_)
        simp only [Int.toNat_natCast]
        exact bI g1 (ifF c rfl)
      · refine bS rfl (bS rfl (bI rfl (bS rfl (bI rfl (bI rfl ?_)))))
        rw [w64i (by omega) (by omega), show ((i : Int) + 1) = ((i + 1 : Nat) : Int) from by omega, fs]

theorem dropped_all {base : Nat} {h : AH} {a : Option Addr} {zs : List Int} (s : Sl h a (iv .u8 zs)) (hb : h.length = base) :
    ∃ h', run (Et base) 13 [.slice a zs.length zs.length] h = some (.bool true, h') := by
  have hz : zs = [] ∨ ∀ b, blk a b → b < base := by
    rcases sl_below s with e | e
    · exact .inl (by cases zs with | nil => rfl | cons x r => simp [iv] at e)
    · exact .inr fun b hb' => by have := e b hb'; omega
  have big : run (Et base) 32 [.slice a zs.length zs.length] h = some (.bool (decide (((zs.length : Nat) : Int) > (1048576 : Int))), h) := r32 rfl
  by_cases c : ((zs.length : Nat) : Int) > (1048576 : Int)
  · exact ⟨h, r13 (bs big (bB rfl (ifT (decide_eq_true c) rfl)))⟩
  obtain ⟨l, al, v, q, h3, e3, R3, hq3, hB3, hl3, k3⟩ := drawDrop_run (base := base) s hz (by omega) (by omega)
  have n3 := k3.1
  obtain ⟨a7, h7, e7, G, k7⟩ := implDrop_run (base := base) (v := v) (by omega) hB3 (R3.ssR.mono (r := fun b => b < h3.length) fun b hb => by have := hq3 b hb; omega) (by omega) (fun b hb => hb)
  have n7 := k7.1
  obtain ⟨h9, e9, k9⟩ := dropped_loop (base := base) (ca := a) (cn := zs.length) (v := v) (by omega) l.length 0 h7 (by omega) (R3.keepN k7).ssR G.ssR (by omega)
  have n9 := k9.1
  simp only [List.take_zero, List.filter_nil, List.length_nil] at e9
  rw [show ((0 : Nat) : Int) = 0 from rfl] at e9
  have k09 := kN (kN k3 k7) k9
  obtain ⟨lq, aq, p, h14, e14, S14, hp14, hB14, hl14, k14⟩ := drawTimersOk_run (base := base) (s.keepN k09) hz (by omega) (by omega)
  have n14 := k14.1
  obtain ⟨h16, e16, k16⟩ := implTimersOk_run (base := base) (by omega) S14 (by omega)
  have n16 := k16.1
  obtain ⟨h18, e18, k18⟩ := specTimersOk_run (base := base) (by omega) (S14.keep k16 fun _ _ h => h) (by omega)
  refine ⟨h18, r13 (bs big (bB rfl (ifF (by simpa using c) (bs e3 (bs rfl (bS rfl (bI rfl (bs e7 (bS rfl (bs e9 (ifF (by simp) (ifT rfl (bS rfl (bS rfl (bI rfl ?_)))))))))))))))⟩
  refine bs e14 (bS rfl (ifT (by simp) (bs e16 (bB rfl (bs e18 (bB rfl ?_))))))
  simp
end Go.Proofs.Ytgigdaijailfkaa.Am
