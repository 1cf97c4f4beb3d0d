/- What the program's AddTimer hands back.
Conditions: none. -/
import Derived.Test.YtomcfongmahjaaaAi
set_option linter.unusedSimpArgs false
set_option linter.unusedVariables false
namespace Go.Proofs.Ytomcfongmahjaaa.Am
open Go Go.RowKit

theorem insT_front {f : Nat} {l : List Sd} {x : Sd} (ok : tsOk f l = true) : insT l x = l.take (frontT x l l.length 0) ++ x :: l.drop (frontT x l l.length 0) := by
  rw [front_stop ok]
  rfl
theorem addOk_true {f : Nat} {l : List Sd} {x : Sd} (ok : addOk f l x = true) : tsOk f l = true ∧ tmOk f x = true ∧ l.length < 50 := by
  unfold addOk at ok
  rw [Bool.and_eq_true, Bool.and_eq_true] at ok
  obtain ⟨⟨h1, h2⟩, h3⟩ := ok
  have := (tsOk_iff.1 h1).2.2
  refine ⟨h1, h2, ?_⟩
  simp at h3
  omega

theorem implAdd_run {base f : Nat} {h : AH} {p : Nat → Prop} {l : List Sd} {a : Option Addr} {x : Sd} {k n : Int} {s : ByteArray} {a2 : Option Addr} {m : Nat} (hl : l.length ≤ 1048576) (hB : ∀ x ∈ l, TmB f x.t) (hs : SsR h p f l a) (hty : TyOk base h a 29) (hx : TmR h p f x.t (termV k n s a2 m)) (hxB : TmB f x.t) (hb : base ≤ h.length) (hp : ∀ b, p b → b < h.length) :
    ∃ a' h', run (Et base) 7 [.slice a l.length l.length, .agg (saidV x.kind x.pid k n s a2 m).toArray] h = some (.tuple #[.slice a' (addT f l x).length (addT f l x).length, .bool (addOk f l x)], h') ∧ RowD 6 (SdD f) (iS h.length h'.length) h' (addT f l x) a' ∧ KB NoB h h' := by
  obtain ⟨o1, k1, q1⟩ := box_own (base := base) (t := 29) (h := h) (cs := saidV x.kind x.pid k n s a2 m) hb rfl
  generalize hh1 : h ++ [some (⟨saidV x.kind x.pid k n s a2 m, 29⟩ : Blk)] = h1 at o1 k1 q1
  obtain ⟨h2, e2, k2⟩ := implTimersOk_run (base := base) (f := f) (by omega) (hs.keep k1 fun _ _ h => h) (by omega)
  have k02 : KB NoB h h2 := kN k1 k2
  have n2 := k02.1
  have o2 := o1.keepN k2
  obtain ⟨h3, e3, k3⟩ := timerOk_run (base := base) (x := x) (TmR.keep k02 (fun _ _ h => h) _ _ _ hx) (by omega)
  have k03 : KB NoB h h3 := kN k02 k3
  have n3 := k03.1
  have o3 := o2.keepN k3
  have bad : ∀ hj, KB NoB h hj → ∃ a' h', run (Et base) 24 [.slice a l.length l.length, .func (.func 25) #[] #[]] hj = some (.slice a' l.length l.length, h') ∧ RowD 6 (SdD f) (iS h.length h'.length) h' l a' ∧ KB NoB h h' := by
    intro hj kj
    have := kj.1
    obtain ⟨a', h', e, R, kk⟩ := copyTimers_run (base := base) (f := f) (by omega) hB (hs.keep kj fun _ _ h => h) (by omega) (fun b hb => by have := hp b hb; omega)
    exact ⟨a', h', e, R.mono fun b hb => by omega, kN kj kk⟩
  by_cases ok : addOk f l x = true
  · obtain ⟨ok1, ok2, hlen⟩ := addOk_true ok
    have hK := frontT_spec (x := x) (l := l) l.length 0 (by omega)
    have hloop := implAdd_loop (base := base) (a := a) (by omega) (hs.keep k03 fun _ _ h => h) o3 l.length 0 (by omega)
    rw [show ((0 : Nat) : Int) = 0 from rfl] at hloop
    have hins := insT_front (x := x) ok1
    unfold addT
    rw [if_pos ok, ok, hins]
    generalize frontT x l l.length 0 = K at hK hloop
    obtain ⟨_, hKl, _, _⟩ := hK
    have hsl := hs
    obtain ⟨vs, v1, v2, v3, v4⟩ := hs
    have hlv := SsR.leafs v3 v4
    have vK : K * 6 ≤ vs.length := by omega
    -- the front part
    have raw1 : rawAt h3 (shiftA a 0) (K * 6) = some (vs.take (K * 6)) := by
      have := ((v1.keepN k03).part (n := 0) (m := K * 6) (by omega)).raw (List.all_eq_true.2 fun v hv => hlv v (List.mem_of_mem_take (by simpa using hv)))
      simpa [vK] using this
    obtain ⟨a4, h4, e4, o4, k4, d4⟩ := Own.app (base := base) (t := 29) (sz := 6) (bytes := 72) (h := h3) (a := none) (olds := []) (.inl ⟨rfl, rfl⟩) (n := 0) (m := K) rfl (by decide) raw1 (by omega) (by omega) (by omega) (by simp; omega)
    rw [Nat.zero_add] at e4
    rw [List.nil_append] at o4
    have k4' : KB NoB h3 h4 := k4.mono fun i _ hi => by obtain ⟨_, e, _⟩ := hi; cases e
    have n4 := k4'.1
    have k04 : KB NoB h h4 := kN k03 k4'
    have o1' := o3.keepN k4'
    have f4 : ∀ b, blk a4 b → h3.length ≤ b ∧ b < h4.length := fun b hb' => by
      refine ⟨?_, (o4.lt hb').2⟩
      rcases d4 with ⟨_, e, _⟩ | d
      · rw [e] at hb'; obtain ⟨_, e, _⟩ := hb'; cases e
      · have := d b hb'; omega
    -- the new one
    obtain ⟨o5, k5, q5⟩ := box_own (base := base) (t := 29) (h := h4) (cs := saidV x.kind x.pid k n s a2 m) (by omega) rfl
    obtain ⟨a6, h6, e6, o6, k6, b6, n6⟩ := app1 (bytes := 72) o4 (n := K) (sz := 6) (cs := saidV x.kind x.pid k n s a2 m) (by simp; omega) rfl (by decide) rfl (by omega) (by omega) (by omega)
    have k06 : KB NoB h h6 := kFresh k04 k6 fun i hi => by have := f4 i hi; omega
    have k36 : KB NoB h3 h6 := kFresh k4' k6 fun i hi => (f4 i hi).1
    -- the rest
    have raw3 : rawAt h6 (shiftA a (K * 6)) ((l.length - K) * 6) = some (vs.drop (K * 6)) := by
      have := ((v1.keepN k06).part (n := K * 6) (m := (l.length - K) * 6) (by omega)).raw (List.all_eq_true.2 fun v hv => hlv v (List.mem_of_mem_drop (List.mem_of_mem_take hv)))
      have e : (vs.drop (K * 6)).take ((l.length - K) * 6) = vs.drop (K * 6) := List.take_of_length_le (by simp; omega)
      rw [e] at this
      have e2 : (vs.drop (K * 6)).length = (l.length - K) * 6 := by simp; omega
      rw [e2] at this
      exact this
    obtain ⟨a7, h7, e7, o7, k7, d7⟩ := Own.app (base := base) (bytes := 72) o6 (n := K + 1) (m := l.length - K) (sz := 6) (by simp; omega) (by decide) raw3 (by omega) (by omega) (by omega) (by simp; omega)
    have n7 := k7.1
    have k07 : KB NoB h h7 := kFresh k06 k7 fun i hi => by have := b6 i hi; omega
    have elen : K + 1 + (l.length - K) = l.length + 1 := by omega
    rw [elen] at e7
    have ilen : (l.take K ++ x :: l.drop K).length = l.length + 1 := mid_len hKl
    have R7 : SsR h7 (fun b => p b ∨ blk a7 b) f (l.take K ++ x :: l.drop K) a7 := by
      refine ⟨_, o7.sl, .inr fun b hb' => .inr hb', by rw [ilen]; simp; omega, fun i y hy => ?_⟩
      have hi : i < l.length + 1 := by have := (List.getElem?_eq_some_iff.1 hy).1; omega
      obtain ⟨c1, c2, c3⟩ := chunk_mid (vs := vs) (cs := saidV x.kind x.pid k n s a2 m) v3 rfl hKl i
      have up : ∀ {t : Tm} {cs : List Value}, TmR h p f t cs → TmR h7 (fun b => p b ∨ blk a7 b) f t cs := fun y => (TmR.keep k07 (fun _ _ h => h) _ _ _ y).mono (fun b hb => .inl hb) _ _ _
      rcases Nat.lt_trichotomy i K with c | c | c
      · rw [mid_lt hKl c] at hy
        obtain ⟨cs, ec, hm⟩ := v4 i y hy
        exact ⟨cs, (c1 c).trans ec, up hm⟩
      · rw [c, mid_eq hKl] at hy
        injection hy with hy
        subst hy
        exact ⟨_, c2 c, up hx⟩
      · rw [mid_gt hKl c] at hy
        obtain ⟨cs, ec, hm⟩ := v4 (i - 1) y hy
        exact ⟨cs, (c3 c).trans ec, up hm⟩
    obtain ⟨a8, h8, e8, R8, k8⟩ := copyTimers_run (base := base) (f := f) (by omega) (fun y hy => by
      rcases List.mem_append.1 hy with h | h
      · exact hB y (List.mem_of_mem_take h)
      · rcases List.mem_cons.1 h with h | h
        · rw [h]; exact hxB
        · exact hB y (List.mem_of_mem_drop h)) R7 (by omega) (fun b hb' => by
      rcases hb' with hb' | hb'
      · have := hp b hb'; omega
      · exact (o7.lt hb').2)
    rw [ilen] at e8
    rw [ilen]
    have n8 := k8.1
    refine ⟨a8, h8, r7 (lets fun y ey => ?_), R8.mono fun b hb => by omega, kN k07 k8⟩
    rw [hh1] at ey
    subst ey
    refine bj (q := ([some (.slice a l.length l.length), some (.pointer (at0 h.length)), some (.bool false)], h3)) ?_ ?_
    · refine bs e2 (bB rfl (ifF (by rw [ok1]; decide) (q6 o2 (bs e3 (bB rfl (ifF (by rw [ok2]; decide) ?_))))))
      rw [decide_eq_false (by omega)]
    · refine bS rfl (bs rfl (bB rfl (ifF (by decide) (bs hloop (ifT rfl (bS rfl (bs rfl (bI rfl (ifT ⟨by decide, by omega, by omega, (hty.keepN k03).ok _⟩ ?_)))))))))
      simp only [Int.toNat_natCast, Int.toNat_zero, Nat.sub_zero, Nat.zero_mul]
      refine bs e4 (bS rfl ?_)
      rw [gate_pos (same_keep k4' (o3.at0 (i := 0) rfl))]
      refine q6 o1' (lets fun y ey => ?_)
      subst ey
      refine bs e6 (bS rfl ?_)
      rw [gate_pos ((hty.keepN k04).ne (Nat.le_refl _))]
      have g2 : sameA (h4 ++ [some (⟨saidV x.kind x.pid k n s a2 m, 29⟩ : Blk)]) h6 a 0 := fun ad e => by
        have hlt := ((hty.keepN k04) ad e).1
        refine ⟨fun j hj => absurd hj (Nat.not_lt_zero _), ?_⟩
        rw [hget_append_lt hlt, k6.2 _ hlt (fun hb' => by have := f4 _ hb'; have := (hty ad e).1; omega)]
      rw [gate_pos g2, gate_pos ((hty.keepN k03).same0 k36 fun _ _ h => h)]
      refine ifT ⟨by omega, by omega, Int.le_refl _, (hty.keepN k06).ok _⟩ ?_
      refine bs e7 (bS rfl (bs e8 (bS rfl rfl)))
  · have okf : addOk f l x = false := by simpa using ok
    unfold addT
    rw [if_neg ok, okf]
    cases c1 : tsOk f l with
    | false =>
      obtain ⟨a', h', e, R, kk⟩ := bad h2 k02
      refine ⟨a', h', r7 (lets fun y ey => ?_), R, kk⟩
      rw [hh1] at ey
      subst ey
      exact bj (q := ([some (.slice a l.length l.length), some (.pointer (at0 h.length)), some (.bool true)], h2)) (bs e2 (bB rfl (ifT (by rw [c1]; decide) rfl))) (bS rfl (bs rfl (bB rfl (ifT rfl (bs e (bS rfl rfl))))))
    | true =>
      obtain ⟨a', h', e, R, kk⟩ := bad h3 k03
      refine ⟨a', h', r7 (lets fun y ey => ?_), R, kk⟩
      rw [hh1] at ey
      subst ey
      refine bj (q := ([some (.slice a l.length l.length), some (.pointer (at0 h.length)), some (.bool true)], h3)) (bs e2 (bB rfl (ifF (by rw [c1]; decide) (q6 o2 (bs e3 (bB rfl ?_)))))) (bS rfl (bs rfl (bB rfl (ifT rfl (bs e (bS rfl rfl))))))
      cases c2 : tmOk f x with
      | false => exact ifT (by decide) rfl
      | true =>
        refine ifF (by decide) ?_
        have h50 : l.length = 50 := by
          unfold addOk at okf
          rw [c1, c2] at okf
          simp at okf
          omega
        rw [decide_eq_true (by omega)]
end Go.Proofs.Ytomcfongmahjaaa.Am
