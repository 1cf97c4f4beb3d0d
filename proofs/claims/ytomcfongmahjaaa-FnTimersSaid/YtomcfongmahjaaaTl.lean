/- The law FnTimers: a timer that is added stands behind all that are not later; all others stay in order.
Conditions: none. -/
import Derived.Test.YtomcfongmahjaaaAi2
import Derived.Test.YtomcfongmahjaaaBn2
import Derived.Test.YtomcfongmahjaaaSmT
set_option linter.unusedSimpArgs false
set_option linter.unusedVariables false
namespace Go.Proofs.Ytomcfongmahjaaa.Am
open Go Go.RowKit

theorem tsOk_ins {f : Nat} {l : List Sd} {x : Sd} (ok : addOk f l x = true) : tsOk f (insT l x) = true := by
  obtain ⟨ok1, ok2, h50⟩ := addOk_true ok
  rw [insT_front ok1]
  obtain ⟨t1, t2, t3⟩ := tsOk_iff.1 ok1
  obtain ⟨_, f2, f3, f4⟩ := frontT_spec (x := x) (l := l) l.length 0 (by omega)
  generalize frontT x l l.length 0 = K at f2 f3 f4
  rw [tsOk_iff]
  refine ⟨fun y hy => ?_, ?_, by rw [mid_len f2]; omega⟩
  · rcases List.mem_append.1 hy with h | h
    · exact t1 y (List.mem_of_mem_take h)
    · rcases List.mem_cons.1 h with h | h
      · rw [h]; exact ok2
      · exact t1 y (List.mem_of_mem_drop h)
  · have dr : ∀ y ∈ l.drop K, x.kind ≤ y.kind := by
      intro y hy
      obtain ⟨i, hi, rfl⟩ := List.mem_iff_getElem.1 hy
      rw [List.getElem_drop]
      have hi' : K + i < l.length := by simp at hi; omega
      have h4 := f4 (by omega)
      rcases Nat.eq_zero_or_pos i with h0 | h0
      · subst h0; simp only [Nat.add_zero]; omega
      · have := List.pairwise_iff_getElem.1 t2 K (K + i) (by omega) hi' (by omega)
        omega
    have tk : ∀ y ∈ l.take K, y.kind ≤ x.kind := by
      intro y hy
      obtain ⟨i, hi, rfl⟩ := List.mem_iff_getElem.1 hy
      rw [List.getElem_take]
      have hi' : i < K := by simp at hi; omega
      exact f3 i (by omega) (Nat.zero_le _) hi'
    rw [List.pairwise_append]
    refine ⟨t2.sublist (List.take_sublist ..), List.pairwise_cons.2 ⟨fun y hy => dr y hy, t2.sublist (List.drop_sublist ..)⟩, fun y hy z hz => ?_⟩
    rcases List.mem_cons.1 hz with e | hz
    · rw [e]; exact tk y hy
    · have := tk y hy; have := dr z hz; omega

theorem timers_loop0 {base f : Nat} {p : Nat → Prop} {l : List Sd} {x : Sd} {a am : Option Addr} {xb nm : Nat} {k n : Int} {s : ByteArray} {a2 : Option Addr} {m : Nat} {h : AH} (hl : l.length ≤ 1048576) (hs : SsR h p f l a) (o : Own base 29 h (at0 xb) (saidV x.kind x.pid k n s a2 m)) : ∀ (d i : Nat), i + d = l.length →
    loopL (B3_0 base) [some (.slice a l.length l.length), some (.pointer (at0 xb)), some (.slice am nm nm), some (.int .i64 (i : Int))] h = some (2, [some (.slice a l.length l.length), some (.pointer (at0 xb)), some (.slice am nm nm), some (.int .i64 ((frontT x l d i : Nat) : Int))], h) := by
  intro d
  induction d with
  | zero =>
    intro i hi
    refine loop_off (by decide) ?_
    rw [B3_0_eq]
    refine bj (q := ([some (.slice a l.length l.length), some (.pointer (at0 xb)), some (.slice am nm nm), some (.int .i64 (i : Int)), some (.bool false)], h)) (ifF (by simp; omega) rfl) ?_
    exact bS rfl (bs rfl (bS rfl (bI rfl (bB rfl (ifF (by decide) rfl)))))
  | succ d ih =>
    intro i hi
    have hlt : i < l.length := by omega
    obtain ⟨ad, kk, nn, ss, a3, m3, rfl, _, g0, _⟩ := hs.get hlt
    rw [frontT, gD hlt]
    by_cases c : l[i].kind ≤ x.kind
    · rw [if_pos c]
      refine loop_on ?_ (ih (i + 1) (by omega))
      rw [B3_0_eq]
      refine bj (q := ([some (.slice (some ad) l.length l.length), some (.pointer (at0 xb)), some (.slice am nm nm), some (.int .i64 (i : Int)), some (.bool true)], h)) ?_ ?_
      · refine ifT (decide_eq_true (by omega)) (ifT ⟨by omega, by omega⟩ (bs rfl ?_))
        simp only [Int.toNat_natCast]
        exact bI g0 (bI (o.at0 (i := 0) rfl) (by rw [decide_eq_true c]))
      · refine bS rfl (bs rfl (bS rfl (bI rfl (bB rfl (ifT rfl ?_)))))
        rw [w64i (n := (i : Int) + 1) (by omega) (by omega)]
        rfl
    · rw [if_neg c]
      refine loop_off (by decide) ?_
      rw [B3_0_eq]
      refine bj (q := ([some (.slice (some ad) l.length l.length), some (.pointer (at0 xb)), some (.slice am nm nm), some (.int .i64 (i : Int)), some (.bool false)], h)) ?_ ?_
      · refine ifT (decide_eq_true (by omega)) (ifT ⟨by omega, by omega⟩ (bs rfl ?_))
        simp only [Int.toNat_natCast]
        exact bI g0 (bI (o.at0 (i := 0) rfl) (by rw [decide_eq_false c]))
      · exact bS rfl (bs rfl (bS rfl (bI rfl (bB rfl (ifF (by decide) rfl)))))

theorem timers_loop1 {base f f2 K : Nat} {p p2 : Nat → Prop} {l L : List Sd} {al am : Option Addr} (hl : l.length ≤ 1048576) (hL : L.length = l.length + 1) (hlo : ∀ i, i < K → L[i]? = l[i]?) (hhi : ∀ i, K ≤ i → L[i + 1]? = l[i]?) : ∀ (d i : Nat) (h : AH), i + d = l.length → SsR h p f l al → SsR h p2 f2 L am → base ≤ h.length →
    ∃ h', loopL (B3_1 base) [some (.slice al l.length l.length), some (.slice am L.length L.length), some (.int .i64 (K : Int)), some (.int .i64 (i : Int))] h = some (4, [], h') ∧ KB NoB h h' := by
  intro d
  induction d with
  | zero =>
    intro i h hi hs hs2 hb
    refine ⟨h, loop_off (by decide) ?_, KB.refl _ _⟩
    rw [B3_1_eq]
    exact ifF (by simp; omega) rfl
  | succ d ih =>
    intro i h hi hs hs2 hb
    have hlt : i < l.length := by omega
    have hj : ∃ j, j < L.length ∧ L[j]? = l[i]? ∧ ((i : Int) ≥ (K : Int) → (j : Int) = (i : Int) + 1) ∧ (¬ (i : Int) ≥ (K : Int) → (j : Int) = (i : Int)) := by
      rcases Nat.lt_or_ge i K with c | c
      · exact ⟨i, by omega, hlo i c, fun h => by omega, fun h => rfl⟩
      · exact ⟨i + 1, by omega, hhi i c, fun h => by omega, fun h => by omega⟩
    obtain ⟨j, hjl, hje, hj1, hj2⟩ := hj
    have hget : L[j] = l[i] := by
      rw [List.getElem?_eq_getElem hjl, List.getElem?_eq_getElem hlt] at hje
      injection hje
    obtain ⟨ad, k, n, s, a2, m, rfl, _, g0, g1, g2, g3, g4, g5, hm⟩ := hs.get hlt
    obtain ⟨ad2, k', n', s', a2', m', rfl, _, y0, y1, y2, y3, y4, y5, hm2⟩ := hs2.get hjl
    rw [hget] at y0 y1 hm2
    obtain ⟨h1, e1, k1⟩ := sameT_run (base := base) f2 f h p2 p l[i].t _ _ hm2 hm hb
    have n1 := k1.1
    obtain ⟨h2, e2, k2⟩ := ih (i + 1) h1 (by omega) (hs.keep k1 fun _ _ h => h) (hs2.keep k1 fun _ _ h => h) (by omega)
    refine ⟨h2, loop_on ?_ e2, kN k1 k2⟩
    have hI : (0 : Int) ≤ (i : Int) ∧ (i : Int) < ((l.length : Nat) : Int) := ⟨by omega, by omega⟩
    have hJ : (0 : Int) ≤ (j : Int) ∧ (j : Int) < ((L.length : Nat) : Int) := ⟨by omega, by omega⟩
    rw [B3_1_eq]
    refine ifT (decide_eq_true (by omega)) ?_
    refine bj (q := ([some (.slice (some ad) l.length l.length), some (.slice (some ad2) L.length L.length), some (.int .i64 (K : Int)), some (.int .i64 (i : Int)), some (.int .i64 (j : Int))], h)) ?_ ?_
    · by_cases c : (i : Int) ≥ (K : Int)
      · refine ifT (decide_eq_true c) ?_
        rw [w64i (by omega) (by omega), hj1 c]
      · refine ifF (by simpa using c) ?_
        rw [hj2 c]
    · refine bS rfl (bS rfl (bI rfl (bI rfl (bI rfl ?_))))
      refine bj (q := ([some (.slice (some ad) l.length l.length), some (.slice (some ad2) L.length L.length), some (.int .i64 (K : Int)), some (.int .i64 (i : Int)), some (.bool false)], h1)) ?_ ?_
      · refine ifT hJ (bs rfl ?_)
        simp only [Int.toNat_natCast]
        refine bI y0 (ifT hI (bs rfl (bI g0 (ifF (by simp) ?_))))
        refine ifT hJ (bs rfl (bI y1 (ifT hI (bs rfl (bI g1 (ifF (by simp) ?_))))))
        refine ifT hJ (bs rfl (bI y2 (bI y3 (bT y4 (bS y5 (ifT hI (bs rfl ?_)))))))
        exact bI g2 (bI g3 (bT g4 (bS g5 (bs e1 (bB rfl rfl)))))
      · refine bS rfl (bS rfl (bI rfl (bI rfl (bB rfl (ifF (by decide) ?_)))))
        rw [w64i (by omega) (by omega), show ((i : Int) + 1) = ((i + 1 : Nat) : Int) from by omega]

theorem timers_all {base : Nat} {h : AH} {a : Option Addr} {zs : List Int} (s : Sl h a (iv .u8 zs)) (hb : h.length = base) :
    ∃ h', run (Et base) 3 [.slice a zs.length zs.length] h = some (.bool true, h') := by
  have hz : zs = [] ∨ ∀ b, blk a b → b < base := by
    rcases sl_below s with e | e
    · exact .inl (by cases zs with | nil => rfl | cons x r => simp [iv] at e)
    · exact .inr fun b hb' => by have := e b hb'; omega
  have big : run (Et base) 5 [.slice a zs.length zs.length] h = some (.bool (decide (((zs.length : Nat) : Int) > (1048576 : Int))), h) := r5 rfl
  by_cases c : ((zs.length : Nat) : Int) > (1048576 : Int)
  · exact ⟨h, r3 (bs big (bB rfl (ifT (decide_eq_true c) rfl)))⟩
  obtain ⟨l, al, x, k, n, st, a2, m, q, h3, e3, R3, hq3, hB3, hl3, m3, tb3, k3⟩ := drawAdd_run (base := base) s hz (by omega) (by omega)
  have n3 := k3.1
  obtain ⟨o13, k13, q13⟩ := box_own (base := base) (t := 29) (h := h3) (cs := saidV 0 0 0 0 ⟨#[]⟩ none 0) (by omega) rfl
  obtain ⟨h14, e14, o14, k14, l14⟩ := o13.wr0 (i := 0) (new := saidV x.kind x.pid k n st a2 m) (by simp) (by simp)
  have hz0 : setAt (saidV 0 0 0 0 ⟨#[]⟩ none 0) 0 (saidV x.kind x.pid k n st a2 m) = saidV x.kind x.pid k n st a2 m := rfl
  rw [hz0] at o14
  have k314 : KB NoB h3 h14 := kFresh k13 k14 fun i hi => by omega
  have n14 := k314.1
  have R14 := R3.keepN k314
  have m14 := TmR.keep k314 (fun _ _ h => h) _ _ _ m3
  have ty14 : TyOk base h14 al 29 := by obtain ⟨vs, o, _⟩ := R14; exact TyOk.own o
  have pl : ∀ b, (q b ∨ blk al b) ∨ iS h.length h3.length b → b < h3.length := fun b hb => by
    rcases hb with hb | hb
    · exact (hq3 b hb).2
    · exact hb.2
  obtain ⟨am, h21, e21, G21, k21⟩ := implAdd_run (base := base) (p := fun b => (q b ∨ blk al b) ∨ iS h.length h3.length b) (x := x) (by omega) hB3 (R14.ssR.mono (r := fun b => (q b ∨ blk al b) ∨ iS h.length h3.length b) fun b hb => .inl hb) ty14 (m14.mono (fun b hb => .inr hb) _ _ _) tb3 (by omega) (fun b hb => by have := pl b hb; omega)
  have n21 := k21.1
  have o21 := o14.keepN k21
  have R21 := R14.keepN k21
  obtain ⟨aw, q31, h31, e31, W31, f31, k31⟩ := specAdd_run (base := base) (p := fun b => (q b ∨ blk al b) ∨ iS h.length h3.length b) (x := x) (by omega) hB3 (R21.ssR.mono (r := fun b => (q b ∨ blk al b) ∨ iS h.length h3.length b) fun b hb => .inl hb) ((TmR.keep k21 (fun _ _ h => h) _ _ _ m14).mono (fun b hb => .inr hb) _ _ _) tb3 (by omega) (fun b hb => by have := pl b hb; omega)
  have n31 := k31.1
  have o31 := o21.keepN k31
  have R31 := R21.keepN k31
  have G31 := G21.keep (SdD.kp _) k31 fun _ _ h => h
  have m31 := TmR.keep k31 (fun _ _ h => h) _ _ _ (TmR.keep k21 (fun _ _ h => h) _ _ _ m14)
  have start : ∀ {r : Value × AH} {b : Bool}, b = (!(addOk dF l x)) → ((if b = true then
      (if (addOk dF l x == addOk dF l x) = true then
      some (Value.bool ((((addT dF l x).length : Nat) : Int) == ((l.length : Nat) : Int)), h31)
      else
      some (Value.bool false, h31))
      else
      (loopL (B3_0 base) [some (.slice al l.length l.length), some (.pointer (at0 h3.length)), some (.slice am (addT dF l x).length (addT dF l x).length), some (.int .i64 (0 : Int))] h31).bind fun q42 =>
      (if q42.1 = 2 then
      ((sget q42.2.1 0).bind getS).bind fun l43 =>
      ((sget (q42.2.1.tail) 0).bind getA).bind fun d44 =>
      ((sget (q42.2.1.tail.tail) 0).bind getS).bind fun l45 =>
      ((sget (q42.2.1.tail.tail.tail) 0).bind (getI .i64)).bind fun n46 =>
      ((if (((l45.2 : Nat) : Int) != (IntKind.wrap .i64 (((l43.2 : Nat) : Int) + (1 : Int)))) = true then
      some (Sum.inl ([some (.slice l43.1 l43.2 l43.2), some (.slice l45.1 l45.2 l45.2), some (.int .i64 n46), some (.bool true)], q42.2.2))
      else
      (if 0 ≤ n46 ∧ n46 < ((l45.2 : Nat) : Int) then
      ((l45.1 : Option Addr)).bind fun a48 =>
      ((Am.cell q42.2.2 a48.block ((a48.off + Int.toNat n46 * 6) + 0)).bind (getI .i64)).bind fun n49 =>
      ((Am.cell q42.2.2 d44.block (d44.off + 0)).bind (getI .i64)).bind fun n50 =>
      (if (n49 != n50) = true then
      some (.inl ([some (.slice l43.1 l43.2 l43.2), some (.slice l45.1 l45.2 l45.2), some (.int .i64 n46), some (.bool true)], q42.2.2))
      else
      (if 0 ≤ n46 ∧ n46 < ((l45.2 : Nat) : Int) then
      ((l45.1 : Option Addr)).bind fun a51 =>
      ((Am.cell q42.2.2 a51.block ((a51.off + Int.toNat n46 * 6) + 1)).bind (getI .i64)).bind fun n52 =>
      ((Am.cell q42.2.2 d44.block (d44.off + 1)).bind (getI .i64)).bind fun n53 =>
      (if (n52 != n53) = true then
      some (.inl ([some (.slice l43.1 l43.2 l43.2), some (.slice l45.1 l45.2 l45.2), some (.int .i64 n46), some (.bool true)], q42.2.2))
      else
      (if 0 ≤ n46 ∧ n46 < ((l45.2 : Nat) : Int) then
      ((l45.1 : Option Addr)).bind fun a54 =>
      ((Am.cell q42.2.2 a54.block ((a54.off + Int.toNat n46 * 6) + 2)).bind (getI .i64)).bind fun n55 =>
      ((Am.cell q42.2.2 a54.block (((a54.off + Int.toNat n46 * 6) + 2) + 1)).bind (getI .i64)).bind fun n56 =>
      ((Am.cell q42.2.2 a54.block ((((a54.off + Int.toNat n46 * 6) + 2) + 1) + 1)).bind getStr).bind fun s57 =>
      ((Am.cell q42.2.2 a54.block (((((a54.off + Int.toNat n46 * 6) + 2) + 1) + 1) + 1)).bind getS).bind fun l58 =>
      ((Am.cell q42.2.2 d44.block (d44.off + 2)).bind (getI .i64)).bind fun n59 =>
      ((Am.cell q42.2.2 d44.block ((d44.off + 2) + 1)).bind (getI .i64)).bind fun n60 =>
      ((Am.cell q42.2.2 d44.block (((d44.off + 2) + 1) + 1)).bind getStr).bind fun s61 =>
      ((Am.cell q42.2.2 d44.block ((((d44.off + 2) + 1) + 1) + 1)).bind getS).bind fun l62 =>
      (run (Et base) 9 [(.agg #[(.int .i64 n55), (.int .i64 n56), (.string s57), (.slice l58.1 l58.2 l58.2)]), (.agg #[(.int .i64 n59), (.int .i64 n60), (.string s61), (.slice l62.1 l62.2 l62.2)])] q42.2.2).bind fun r63 =>
      ((some r63.1).bind getB).bind fun b64 =>
      (if (!b64) = true then
      some (.inl ([some (.slice l43.1 l43.2 l43.2), some (.slice l45.1 l45.2 l45.2), some (.int .i64 n46), some (.bool true)], r63.2))
      else
      (run (Et base) 10 [(.slice l45.1 l45.2 l45.2)] r63.2).bind fun r65 =>
      ((some r65.1).bind getB).bind fun b66 =>
      some (.inl ([some (.slice l43.1 l43.2 l43.2), some (.slice l45.1 l45.2 l45.2), some (.int .i64 n46), some (.bool (!b66))], r65.2)))
      else none))
      else none))
      else none)) : Option (Sum (Slots × AH) (Value × AH))).bind fun j47 => joinK j47 fun j47 =>
      ((sget j47.1 0).bind getS).bind fun l67 =>
      ((sget (j47.1.tail) 0).bind getS).bind fun l68 =>
      ((sget (j47.1.tail.tail) 0).bind (getI .i64)).bind fun n69 =>
      ((sget (j47.1.tail.tail.tail) 0).bind getB).bind fun b70 =>
      (if b70 = true then
      some ((.bool false), j47.2)
      else
      (loopL (B3_1 base) [some (.slice l67.1 l67.2 l67.2), some (.slice l68.1 l68.2 l68.2), some (.int .i64 n69), some (.int .i64 (0 : Int))] j47.2).bind fun q71 =>
      (if q71.1 = 1 then
      ((sget q71.2.1 0).bind getB).bind fun b72 =>
      some ((.bool b72), q71.2.2)
      else
      (if q71.1 = 4 then
      some ((.bool true), q71.2.2)
      else
      none)))
      else
      none))) = some r → run (Et base) 3 [.slice a zs.length zs.length] h = some r := by
    intro r b eb hr
    refine r3 (bs big (bB rfl (ifF (by simpa using c) (bs e3 (bs rfl (bS rfl (bs (v := saidV x.kind x.pid k n st a2 m) rfl (bI rfl (bI rfl (bI rfl (bI rfl (bT rfl (bS rfl (lets fun y9 ey9 => ?_))))))))))))))
    subst ey9
    refine bs e14 (q6 o14 (bs e21 (bs rfl (bS rfl (bB rfl (q6 o21 (bs e31 (bs rfl (bS rfl (bB rfl ?_)))))))))) 
    refine bj (q := ([some (.slice al l.length l.length), some (.pointer (at0 h3.length)), some (.slice am (addT dF l x).length (addT dF l x).length), some (.bool (addOk dF l x)), some (.bool (addOk dF l x)), some (.bool b)], h31)) ?_ ?_
    · subst eb
      exact ifF (by simp) rfl
    · exact bS rfl (bs rfl (bS rfl (bB rfl (bB rfl (bB rfl hr)))))
  cases ok : addOk dF l x with
  | false =>
    refine ⟨h31, start (b := true) (by rw [ok]; rfl) (ifT rfl (ifT (by simp) ?_))⟩
    have : addT dF l x = l := by unfold addT; rw [ok]; rfl
    rw [this]
    simp
  | true =>
    obtain ⟨ok1, ok2, h50⟩ := addOk_true ok
    have et : addT dF l x = insT l x := by unfold addT; rw [ok]; rfl
    have hK := frontT_spec (x := x) (l := l) l.length 0 (by omega)
    have l0 := timers_loop0 (base := base) (am := am) (nm := (addT dF l x).length) (by omega) R31.ssR o31 l.length 0 (by omega)
    rw [show ((0 : Nat) : Int) = 0 from rfl] at l0
    have hins := insT_front (x := x) ok1
    have hts := tsOk_ins ok
    have hlen : (addT dF l x).length = l.length + 1 := by rw [et, insT_len]
    rw [← et] at hins hts
    generalize frontT x l l.length 0 = K at hK hins l0
    obtain ⟨_, hKl, _, _⟩ := hK
    have hKL : K < (addT dF l x).length := by omega
    have hgK : (addT dF l x)[K] = x := by
      have : (addT dF l x)[K]? = some x := by rw [hins]; exact mid_eq hKl
      rw [List.getElem?_eq_getElem hKL] at this
      injection this
    obtain ⟨ad, k', n', s', a2', m', ead, _, y0, y1, y2, y3, y4, y5, hm2⟩ := G31.ssR.get hKL
    rw [hgK] at y0 y1 hm2
    obtain ⟨h63, e63, k63⟩ := sameT_run (base := base) dF dF h31 _ _ x.t _ _ hm2 m31 (by omega)
    have n63 := k63.1
    have G63 := G31.keep (SdD.kp _) k63 fun _ _ h => h
    obtain ⟨h65, e65, k65⟩ := implTimersOk_run (base := base) (by omega) G63.ssR (by omega)
    have n65 := k65.1
    rw [hts] at e65
    obtain ⟨h71, e71, k71⟩ := timers_loop1 (base := base) (K := K) (l := l) (L := addT dF l x) (by omega) hlen (fun i hi => by rw [hins]; exact mid_lt hKl hi) (fun i hi => by rw [hins, mid_gt hKl (by omega)]; simp) l.length 0 h65 (by omega) (R31.keepN (kN k63 k65)).ssR (G63.keep (SdD.kp _) k65 fun _ _ h => h).ssR (by omega)
    rw [show ((0 : Nat) : Int) = 0 from rfl] at e71
    subst ead
    have hN : (0 : Int) ≤ (K : Int) ∧ (K : Int) < (((addT dF l x).length : Nat) : Int) := ⟨by omega, by omega⟩
    refine ⟨h71, start (b := false) (by rw [ok]; rfl) (ifF (by decide) (bs l0 (ifT rfl (bS rfl (bs rfl (bS rfl (bI rfl ?_)))))))⟩
    refine bj (q := ([some (.slice al l.length l.length), some (.slice (some ad) (addT dF l x).length (addT dF l x).length), some (.int .i64 (K : Int)), some (.bool false)], h65)) ?_ ?_
    · refine ifF ?_ (ifT hN (bs rfl ?_))
      · rw [w64i (by omega) (by omega), hlen]
        simp
      · simp only [Int.toNat_natCast]
        refine bI y0 (bI (o31.at0 (i := 0) rfl) (ifF (by simp) (ifT hN (bs rfl (bI y1 (bI (o31.at0 (i := 1) rfl) (ifF (by simp) (ifT hN (bs rfl ?_)))))))))
        refine bI y2 (bI y3 (bT y4 (bS y5 (bI (o31.at0 (i := 2) rfl) (bI (o31.at0 (i := 3) rfl) (bT (o31.at0 (i := 4) rfl) (bS (o31.at0 (i := 5) rfl) ?_)))))))
        exact bs e63 (bB rfl (ifF (by decide) (bs e65 (bB rfl rfl))))
    · exact bS rfl (bS rfl (bI rfl (bB rfl (ifF (by decide) (bs e71 (ifF (by simp) (ifT rfl rfl)))))))
end Go.Proofs.Ytomcfongmahjaaa.Am
