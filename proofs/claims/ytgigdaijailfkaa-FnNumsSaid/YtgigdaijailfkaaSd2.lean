/- How many ended for want of room: the program's count.
Conditions: none. -/
import Derived.Test.YtgigdaijailfkaaSd
set_option linter.unusedSimpArgs false
set_option linter.unusedVariables false
namespace Go.Proofs.Ytgigdaijailfkaa.Am
open Go Go.RowKit

theorem noroom_run {base : Nat} {h : AH} (hb : base ≤ h.length) : ∃ h', run (Et base) 71 [] h = some (.agg (termV 2 0 nr none 0).toArray, h') ∧ KB NoB h h' := by
  obtain ⟨o1, k1, q1⟩ := box_own (base := base) (t := 48) (h := h) (cs := termV 0 0 ⟨#[]⟩ none 0) hb rfl
  generalize hh1 : h ++ [some (⟨termV 0 0 ⟨#[]⟩ none 0, 48⟩ : Blk)] = h1 at o1 k1 q1
  obtain ⟨h2, e2, k2⟩ := atom_run (base := base) (h := h1) (w := nr) (by omega)
  have n2 := k2.1
  obtain ⟨h3, e3, o3, k3, l3⟩ := (o1.keepN k2).wr0 (i := 0) (new := termV 2 0 nr none 0) (by simp) (by simp)
  have hz : setAt (termV 0 0 ⟨#[]⟩ none 0) 0 (termV 2 0 nr none 0) = termV 2 0 nr none 0 := rfl
  rw [hz] at o3
  refine ⟨h3, r71 (lets fun h1' eh => ?_), KB.trans (KB.trans k1 k2 (fun _ _ h => h) (fun _ _ h => h)) k3 (fun _ _ h => h) (fun i hi h => by omega)⟩
  rw [hh1] at eh
  subst eh
  refine bs e2 (bs (v := termV 2 0 nr none 0) rfl (bI rfl (bI rfl (bT rfl (bS rfl ?_)))))
  exact bs e3 (bI (o3.at0 (i := 0) rfl) (bI (o3.at0 (i := 1) rfl) (bT (o3.at0 (i := 2) rfl) (bS (o3.at0 (i := 3) rfl) rfl))))

abbrev saidV (kind pid k n : Int) (s : ByteArray) (a : Option Addr) (m : Nat) : List Value := [.int .i64 kind, .int .i64 pid, .int .i64 k, .int .i64 n, .string s, .slice a m m]

theorem implNoRooms_loop {base f : Nat} {p : Nat → Prop} {l : List Sd} {a : Option Addr} (hl : l.length ≤ 1048576) : ∀ (d i : Nat) (h : AH) (c : Nat), i + d = l.length → c ≤ i → SsR h p f l a → base ≤ h.length →
    ∃ h', loopL (B34_0 base) [some (.int .i64 (c : Int)), some (.slice a l.length l.length), some (.int .i64 ((l.length : Nat) : Int)), some (.int .i64 (i : Int))] h = some (2, [some (.int .i64 ((c + cnt (l.drop i) : Nat) : Int))], h') ∧ KB NoB h h' := by
  intro d
  induction d with
  | zero =>
    intro i h c hi hc hs hb
    refine ⟨h, ?_, KB.refl _ _⟩
    rw [loopL_eq, B34_0_eq, List.drop_of_length_le (by omega)]
    have : ¬ ((i : Int) < (l.length : Int)) := by omega
    simp [this, cnt]
  | succ d ihd =>
    intro i h c hi hc hs hb
    have hlt : i < l.length := by omega
    obtain ⟨ad, k, n, s, a2, m, rfl, hbl, g0, g1, g2, g3, g4, g5, hm⟩ := hs.get hlt
    have hdrop : l.drop i = l[i] :: l.drop (i + 1) := List.drop_eq_getElem_cons hlt
    have hnr : isNr l[i] = ((l[i].kind == 3) && isA k n s m nr) := by
      cases f with
      | zero => exact hm.elim
      | succ f =>
        unfold isNr
        generalize l[i].t = tt at hm
        obtain ⟨k', n', s', ll⟩ := tt
        obtain ⟨a3, e, _⟩ := hm.parts
        injection e with e0 e
        injection e with e1 e
        injection e with e2 e
        injection e with e3 _
        injection e0 with _ e0
        injection e1 with _ e1
        injection e2 with e2
        injection e3 with _ e3 _
        subst e0; subst e1; subst e2; subst e3
        rfl
    have round : ∃ h1, KB NoB h h1 ∧ B34_0 base [some (.int .i64 (c : Int)), some (.slice (some ad) l.length l.length), some (.int .i64 ((l.length : Nat) : Int)), some (.int .i64 (i : Int))] h = some (0, [some (.int .i64 ((c + (if isNr l[i] then 1 else 0) : Nat) : Int)), some (.slice (some ad) l.length l.length), some (.int .i64 ((l.length : Nat) : Int)), some (.int .i64 ((i + 1 : Nat) : Int))], h1) := by
      obtain ⟨o8, k8, q8⟩ := box_own (base := base) (t := 50) (h := h) (cs := saidV 0 0 0 0 ⟨#[]⟩ none 0) hb rfl
      generalize hh8 : h ++ [some (⟨saidV 0 0 0 0 ⟨#[]⟩ none 0, 50⟩ : Blk)] = h8 at o8 k8 q8
      obtain ⟨h9, e9, o9, k9, l9⟩ := o8.wr0 (i := 0) (new := saidV l[i].kind l[i].pid k n s a2 m) (by simp) (by simp)
      have hz : setAt (saidV 0 0 0 0 ⟨#[]⟩ none 0) 0 (saidV l[i].kind l[i].pid k n s a2 m) = saidV l[i].kind l[i].pid k n s a2 m := rfl
      rw [hz] at o9
      have k09 : KB NoB h h9 := KB.trans k8 k9 (fun _ _ h => h) (fun i hi h => by omega)
      obtain ⟨h16, e16, k16⟩ := noroom_run (base := base) (h := h9) (by omega)
      have n16 := k16.1
      obtain ⟨h22, e22, k22⟩ := implSameAtom_run (base := base) (h := h16) (k := k) (n := n) (s := s) (w := nr) (a := a2) (m := m) (by omega)
      have fin : ∀ (b : Bool) (hh : AH), (((if b = true then
          some (0, [some (Value.int .i64 (IntKind.wrap .i64 ((c : Int) + (1 : Int)))), some (.slice (some ad) l.length l.length), some (.int .i64 ((l.length : Nat) : Int)), some (.int .i64 (IntKind.wrap .i64 ((i : Int) + (1 : Int))))], hh)
          else
          some (0, [some (.int .i64 (c : Int)), some (.slice (some ad) l.length l.length), some (.int .i64 ((l.length : Nat) : Int)), some (.int .i64 (IntKind.wrap .i64 ((i : Int) + (1 : Int))))], hh))) : Option (Nat × Slots × AH)) = some (0, [some (.int .i64 ((c + (if b then 1 else 0) : Nat) : Int)), some (.slice (some ad) l.length l.length), some (.int .i64 ((l.length : Nat) : Int)), some (.int .i64 ((i + 1 : Nat) : Int))], hh) := by
        intro b hh
        cases b with
        | true => rw [if_pos rfl, w64i (by omega) (by omega), w64i (by omega) (by omega)]; simp
        | false => rw [if_neg (by decide), w64i (by omega) (by omega)]; simp
      have start : ∀ r, ((((Am.cell h9 (List.length h) 0).bind (getI .i64)).bind fun n11 =>
          (if (n11 == (3 : Int)) = true then
          ((Am.cell h9 (List.length h) 2).bind (getI .i64)).bind fun n12 =>
          ((Am.cell h9 (List.length h) 3).bind (getI .i64)).bind fun n13 =>
          ((Am.cell h9 (List.length h) 4).bind getStr).bind fun s14 =>
          ((Am.cell h9 (List.length h) 5).bind getS).bind fun l15 =>
          (run (Et base) 71 [] h9).bind fun r16 =>
          ((some r16.1).bind (getAgg 4)).bind fun l17 =>
          ((l17[0]?).bind (getI .i64)).bind fun n18 =>
          ((l17[1]?).bind (getI .i64)).bind fun n19 =>
          ((l17[2]?).bind getStr).bind fun s20 =>
          ((l17[3]?).bind getS).bind fun l21 =>
          (gate (sameA h9 r16.2 (some ⟨(List.length h), 2, none⟩) 4)
          ((run (Et base) 55 [(.agg #[(.int .i64 n12), (.int .i64 n13), (.string s14), (.slice l15.1 l15.2 l15.2)]), (.agg #[(.int .i64 n18), (.int .i64 n19), (.string s20), (.slice l21.1 l21.2 l21.2)])] r16.2).bind fun r22 =>
          ((some r22.1).bind getB).bind fun b23 =>
          some (Sum.inl (β := Nat × Slots × AH) ([some (Value.int .i64 (c : Int)), some (.slice (some ad) l.length l.length), some (.int .i64 ((l.length : Nat) : Int)), some (.int .i64 (i : Int)), some (.bool b23)], r22.2))))
          else
          some (.inl ([some (.int .i64 (c : Int)), some (.slice (some ad) l.length l.length), some (.int .i64 ((l.length : Nat) : Int)), some (.int .i64 (i : Int)), some (.bool false)], h9)))).bind fun j10 => joinK j10 fun j10 =>
          ((sget j10.1 0).bind (getI .i64)).bind fun n24 =>
          ((sget (j10.1.tail) 0).bind getS).bind fun l25 =>
          ((sget (j10.1.tail.tail) 0).bind (getI .i64)).bind fun n26 =>
          ((sget (j10.1.tail.tail.tail) 0).bind (getI .i64)).bind fun n27 =>
          ((sget (j10.1.tail.tail.tail.tail) 0).bind getB).bind fun b28 =>
          (if b28 = true then
          some (0, [some (.int .i64 (IntKind.wrap .i64 (n24 + (1 : Int)))), some (.slice l25.1 l25.2 l25.2), some (.int .i64 n26), some (.int .i64 (IntKind.wrap .i64 (n27 + (1 : Int))))], j10.2)
          else
          some (0, [some (.int .i64 n24), some (.slice l25.1 l25.2 l25.2), some (.int .i64 n26), some (.int .i64 (IntKind.wrap .i64 (n27 + (1 : Int))))], j10.2))) = some r →
          B34_0 base [some (.int .i64 (c : Int)), some (.slice (some ad) l.length l.length), some (.int .i64 ((l.length : Nat) : Int)), some (.int .i64 (i : Int))] h = some r := by
        intro r hr
        rw [B34_0_eq]
        refine ifT (decide_eq_true (by omega)) (ifT ⟨by omega, by omega⟩ (bs rfl ?_))
        simp only [Int.toNat_natCast]
        refine bI g0 (bI g1 (bI g2 (bI g3 (bT g4 (bS g5 (lets fun h8' eh => ?_))))))
        rw [hh8] at eh
        subst eh
        exact bs e9 hr
      by_cases hk : (l[i].kind == (3 : Int)) = true
      · refine ⟨h22, KB.trans (KB.trans k09 k16 (fun _ _ h => h) (fun _ _ h => h)) k22 (fun _ _ h => h) (fun _ _ h => h), start _ ?_⟩
        rw [hnr, hk, Bool.true_and]
        refine bs (v := .inl ([some (.int .i64 (c : Int)), some (.slice (some ad) l.length l.length), some (.int .i64 ((l.length : Nat) : Int)), some (.int .i64 (i : Int)), some (.bool (isA k n s m nr))], h22)) ?_ ?_
        · refine bI (o9.at0 (i := 0) rfl) (ifT hk (bI (o9.at0 (i := 2) rfl) (bI (o9.at0 (i := 3) rfl) (bT (o9.at0 (i := 4) rfl) (bS (o9.at0 (i := 5) rfl) ?_)))))
          refine bs e16 (bs (v := termV 2 0 nr none 0) rfl (bI rfl (bI rfl (bT rfl (bS rfl ?_)))))
          refine (gate_pos (fun ad' had => ?_)).trans (bs e22 (bB rfl rfl))
          injection had with had
          subst had
          have hkk : hget h16 h.length = hget h9 h.length := k16.2 _ (by omega) (fun h => h)
          exact ⟨fun j hj => by simp only [Am.cell, hkk], by rw [hkk]⟩
        · exact jn (bI rfl (bS rfl (bI rfl (bI rfl (bB rfl (fin _ _))))))
      · have hk' : (l[i].kind == (3 : Int)) = false := by simpa using hk
        refine ⟨h9, k09, start _ ?_⟩
        rw [hnr, hk', Bool.false_and]
        refine bs (v := .inl ([some (.int .i64 (c : Int)), some (.slice (some ad) l.length l.length), some (.int .i64 ((l.length : Nat) : Int)), some (.int .i64 (i : Int)), some (.bool false)], h9)) ?_ ?_
        · exact bI (o9.at0 (i := 0) rfl) (ifF hk rfl)
        · exact jn (bI rfl (bS rfl (bI rfl (bI rfl (bB rfl (fin _ _))))))
    obtain ⟨h1, k1, e1⟩ := round
    obtain ⟨h2, e2, k2⟩ := ihd (i + 1) h1 (c + (if isNr l[i] then 1 else 0)) (by omega) (by split <;> omega) (hs.keep k1 fun _ _ h => h) (by have := k1.1; omega)
    refine ⟨h2, ?_, KB.trans k1 k2 (fun _ _ h => h) (fun _ _ h => h)⟩
    rw [loopL_eq, e1]
    simp only [Option.bind_some, if_true]
    rw [e2, hdrop]
    simp only [cnt, Nat.add_assoc]

theorem implNoRooms_run {base f : Nat} {p : Nat → Prop} {h : AH} {l : List Sd} {a : Option Addr} (hl : l.length ≤ 1048576) (hs : SsR h p f l a) (hb : base ≤ h.length) :
    ∃ h', run (Et base) 34 [.slice a l.length l.length] h = some (.int .i64 ((cnt l : Nat) : Int), h') ∧ KB NoB h h' := by
  obtain ⟨h', e, k⟩ := implNoRooms_loop (base := base) hl l.length 0 h 0 (by omega) (by omega) hs hb
  refine ⟨h', r34 ?_, k⟩
  rw [show ((0 : Nat) : Int) = 0 from rfl, List.drop_zero, Nat.zero_add] at e
  exact bs e (ifT rfl (bI rfl rfl))
end Go.Proofs.Ytgigdaijailfkaa.Am
