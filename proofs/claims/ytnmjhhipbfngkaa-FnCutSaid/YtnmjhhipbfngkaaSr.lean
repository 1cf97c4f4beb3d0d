/- The reference's ParseCode; code that is drawn is right.
Conditions: none. -/
import Derived.Test.YtnmjhhipbfngkaaSq
import Derived.Test.YtnmjhhipbfngkaaDr
import Derived.Test.YtnmjhhipbfngkaaGe
set_option linter.unusedSimpArgs false
set_option linter.unusedVariables false
namespace Go.Proofs.Ytnmjhhipbfngkaa.Am
open Go Go.RowKit

/-! ### Sizes of texts -/
theorem setI_size {x : In} {c : Int} {w : List Int} {B : Nat} (hx : x.s.size ≤ B) (hw : w.length ≤ B) : (setI x c w).1.s.size ≤ B := by
  unfold setI
  split
  · show (bstr w).size ≤ B
    rw [bstr_size]; exact hw
  · split
    · exact hx
    · split
      · exact hx
      · split
        · exact hx
        · exact hx
theorem setsF_size {us : List Int} {ws : List (List Int)} {B : Nat} (hw : ∀ w ∈ ws, w.length ≤ B) : ∀ (d k : Nat) (x : In) (ok : Bool), x.s.size ≤ B → (setsF us ws d k x ok).1.s.size ≤ B
  | 0, _, _, _, h => h
  | d + 1, k, x, ok, h => by
    rw [setsF]
    split
    · refine setsF_size hw d _ _ _ (setI_size h ?_)
      by_cases hk : k + 1 < ws.length
      · have : ws.getD (k + 1) [] = ws[k + 1] := by simp [List.getD, hk]
        rw [this]
        exact hw _ (List.getElem_mem hk)
      · have : ws.getD (k + 1) [] = [] := by simp [List.getD, hk]
        rw [this]
        exact Nat.zero_le _
    · exact h
theorem insF_size {ws : List (List Int)} {B : Nat} (hw : ∀ w ∈ ws, w.length ≤ B) : ∀ (d i : Nat), (insF ws d i).1.s.size ≤ B
  | 0, _ => Nat.zero_le _
  | d + 1, i => by
    rw [insF]
    split
    · exact setsF_size hw _ _ _ _ (Nat.zero_le _)
    · exact insF_size hw d _

/-! ### ParseCode -/
def pcF (ls : List (List Int)) : Nat → Nat → List In → Option (List In)
  | 0, _, out => some out
  | d + 1, i, out => if (insL (ls.getD i [])).2 = true then pcF ls d (i + 1) (out ++ [(insL (ls.getD i [])).1]) else none
def parseL (zs : List Int) : List In × Bool :=
  if (!emp (bstr ((splitL zs 10).getD ((splitL zs 10).length - 1) []))) = true then ([], false) else match pcF (splitL zs 10) ((splitL zs 10).length - 1) 0 [] with
    | some o => if codeOk o = true then (o, true) else ([], false)
    | none => ([], false)
theorem parse_loop {base lo : Nat} {ls : List (List Int)} {al a4 : Option Addr} (hls : ∀ w ∈ ls, w.length ≤ 1048576 ∧ ∀ z ∈ w, 0 ≤ z ∧ z ≤ 255) (hlen : ls.length ≤ 1048577) (hlo : base ≤ lo) (hal : ∀ b, blk al b → b < lo) {N : Nat} (hN : N ≤ ls.length) : ∀ (d i : Nat) (h : AH) (ao : Option Addr) (out : List In), i + d = N → out.length = i → lo ≤ h.length → Sl h al (strsV ls) → Own base 116 h ao (insR out) → (∀ b, blk ao b → lo ≤ b) → (∀ x ∈ out, x.s.size ≤ 1048576) →
    ∃ h', KB (fun b => lo ≤ b) h h' ∧ (match pcF ls d i out with
      | some o => ∃ ao', loopL (B124_0 base) [some (.slice a4 0 0), some (.slice al ls.length ls.length), some (.int .i64 (N : Int)), some (.slice ao out.length out.length), some (.int .i64 (i : Int))] h = some (2, [some (.slice a4 0 0), some (.slice ao' o.length o.length)], h') ∧ Own base 116 h' ao' (insR o) ∧ (∀ b, blk ao' b → lo ≤ b) ∧ (∀ x ∈ o, x.s.size ≤ 1048576) ∧ o.length ≤ N
      | none => loopL (B124_0 base) [some (.slice a4 0 0), some (.slice al ls.length ls.length), some (.int .i64 (N : Int)), some (.slice ao out.length out.length), some (.int .i64 (i : Int))] h = some (1, [some (.slice a4 0 0), some (.bool false)], h')) := by
  intro d
  induction d with
  | zero =>
    intro i h ao out hi ho hlh hs ow hao hsz
    refine ⟨h, KB.refl _ _, ao, loop_off (by decide) ?_, ow, hao, hsz, by omega⟩
    rw [B124_0_eq]
    exact ifF (by simp; omega) rfl
  | succ d ih =>
    intro i h ao out hi ho hlh hs ow hao hsz
    have hI : (0 : Int) ≤ (i : Int) ∧ (i : Int) < ((ls.length : Nat) : Int) := ⟨by omega, by omega⟩
    have hmem : ls.getD i [] ∈ ls := by
      have hl : i < ls.length := by omega
      have : ls.getD i [] = ls[i] := by simp [List.getD, hl]
      rw [this]
      exact List.getElem_mem hl
    obtain ⟨w1, w2⟩ := hls _ hmem
    obtain ⟨ad, rfl, g⟩ := strs_at (base := base) (t := 0) hs (i := i) (by omega)
    obtain ⟨h3, e3, k3⟩ := l8Ins_run (base := base) (h := h) w2 w1 (by omega)
    have n3 := k3.1
    have hxs : (insL (ls.getD i [])).1.s.size ≤ 1048576 := insF_size (fun w hw => ((splitL_ok w2 w1 32).1 w hw).1) _ _
    rw [pcF]
    generalize insL (ls.getD i []) = p at e3 hxs
    obtain ⟨x, ok⟩ := p
    simp only at e3 hxs ⊢
    obtain ⟨o13, k13, q13⟩ := box_own (base := base) (t := 116) (h := h3) (cs := inV ⟨0, 0, 0, 0, 0, ⟨#[]⟩⟩) (by omega) rfl
    generalize hh13 : h3 ++ [some (⟨inV ⟨0, 0, 0, 0, 0, ⟨#[]⟩⟩, 116⟩ : Blk)] = h13 at o13 k13 q13
    obtain ⟨h14, e14, o14, k14, l14⟩ := o13.wr0 (i := 0) (new := inV x) (by simp) (by simp)
    have hz : setAt (inV ⟨0, 0, 0, 0, 0, ⟨#[]⟩⟩) 0 (inV x) = inV x := rfl
    rw [hz] at o14
    have k314 : KB NoB h3 h14 := kFresh k13 k14 fun b hb => by omega
    have k014 := kN k3 k314
    have n14 := k314.1
    have head : ∀ {r : Nat × Slots × AH}, ((if (!ok) = true then
        some (1, [some (Value.slice a4 0 0), some (.bool false)], h14)
        else
        ((Am.cell h14 h3.length 0).bind (getI .i64)).bind fun n15 =>
        ((Am.cell h14 h3.length 1).bind (getI .i64)).bind fun n16 =>
        ((Am.cell h14 h3.length 2).bind (getI .i64)).bind fun n17 =>
        ((Am.cell h14 h3.length 3).bind (getI .i64)).bind fun n18 =>
        ((Am.cell h14 h3.length 4).bind (getI .i64)).bind fun n19 =>
        ((Am.cell h14 h3.length 5).bind getStr).bind fun s20 =>
        (some (h14 ++ [some ⟨[(.int .i64 n15), (.int .i64 n16), (.int .i64 n17), (.int .i64 n18), (.int .i64 n19), (.string s20)], 116⟩])).bind fun h21 =>
        (Am.app base h21 116 6 56 ao out.length (rawAt h21 (some ⟨(List.length h14), 0, none⟩) (1 * 6)) 1).bind fun p22 =>
        ((some p22.1).bind getS).bind fun l23 =>
        some (0, [some (.slice a4 0 0), some (.slice (some ad) ls.length ls.length), some (.int .i64 (N : Int)), some (.slice l23.1 l23.2 l23.2), some (.int .i64 (IntKind.wrap .i64 ((i : Int) + (1 : Int))))], p22.2)) = some r) →
        B124_0 base [some (.slice a4 0 0), some (.slice (some ad) ls.length ls.length), some (.int .i64 (N : Int)), some (.slice ao out.length out.length), some (.int .i64 (i : Int))] h = some r := by
      intro r hr
      rw [B124_0_eq]
      refine ifT (decide_eq_true (by omega)) (ifT hI (bs rfl ?_))
      rw [Int.toNat_natCast, Nat.mul_one]
      refine bT g (bs e3 (bs rfl (bs (v := inV x) rfl (bI rfl (bI rfl (bI rfl (bI rfl (bI rfl (bT rfl (bB rfl (lets fun y ey => ?_))))))))))) 
      rw [hh13] at ey
      subst ey
      exact bs e14 hr
    cases ok with
    | false =>
      rw [if_neg (by decide)]
      exact ⟨h14, k014.mono fun _ _ h => h.elim, loop_off (by decide) (head (ifT rfl rfl))⟩
    | true =>
      rw [if_pos rfl]
      have ow14 := ow.keepN k014
      obtain ⟨a6, h6, e6, o6, k6, b6, n6⟩ := Am.app1 (bytes := 56) ow14 (n := out.length) (sz := 6) (cs := inV x) (insR_len out) rfl (by decide) rfl (by omega) (by omega) (by omega)
      have eR : insR out ++ inV x = insR (out ++ [x]) := by rw [insR_app]; rfl
      rw [eR] at o6
      have k06 : KB (fun b => lo ≤ b) h h6 := KB.trans k014 k6 (fun _ _ h => h.elim) (fun b _ hb => hao b hb)
      obtain ⟨h7, k7, m7⟩ := ih (i + 1) h6 a6 (out ++ [x]) (by omega) (by simp; omega) (by omega) (hs.keep k06 fun b hb hk => by have := hal b hb; omega) o6 (fun b hb => by have := b6 b hb; omega) (fun z hz' => by
        rcases List.mem_append.1 hz' with h | h
        · exact hsz z h
        · rw [List.mem_singleton] at h; subst h; exact hxs)
      have body : B124_0 base [some (.slice a4 0 0), some (.slice (some ad) ls.length ls.length), some (.int .i64 (N : Int)), some (.slice ao out.length out.length), some (.int .i64 (i : Int))] h = some (0, [some (.slice a4 0 0), some (.slice (some ad) ls.length ls.length), some (.int .i64 (N : Int)), some (.slice a6 (out ++ [x]).length (out ++ [x]).length), some (.int .i64 ((i + 1 : Nat) : Int))], h6) := by
        refine head (ifF (by decide) (qi o14 (lets fun y ey => ?_)))
        subst ey
        refine bs e6 (bS rfl ?_)
        rw [w64i (n := (i : Int) + 1) (by omega) (by omega)]
        simp
      refine ⟨h7, KB.trans k06 k7 (fun _ _ h => h) (fun _ _ h => h), ?_⟩
      cases hp : pcF ls d (i + 1) (out ++ [x]) with
      | none => rw [hp] at m7; exact loop_on body m7
      | some o => rw [hp] at m7; obtain ⟨ao', y1, y2⟩ := m7; exact ⟨ao', loop_on body y1, y2⟩
theorem specParse_run {base : Nat} {h : AH} {s : ByteArray} (hs : s.size ≤ 1048576) (hb : base ≤ h.length) :
    ∃ ao h', run (Et base) 124 [.string s] h = some (.tuple #[.slice ao (parseL (sb s)).1.length (parseL (sb s)).1.length, .bool (parseL (sb s)).2], h') ∧ Own base 116 h' ao (insR (parseL (sb s)).1) ∧ (∀ b, blk ao b → h.length ≤ b) ∧ (∀ x ∈ (parseL (sb s)).1, x.s.size ≤ 1048576) ∧ KB NoB h h' := by
  obtain ⟨s1, s2, s3⟩ := splitL_ok (sb_bytes s) (by rw [sb_len]; exact hs) 10
  obtain ⟨o1, k1, q1⟩ := box_own (base := base) (t := 116) (h := h) (cs := []) hb rfl
  generalize hh1 : h ++ [some (⟨[], 116⟩ : Blk)] = h1 at o1 k1 q1
  obtain ⟨al, h2, e2, o2, f2, k2⟩ := l8Split_run (base := base) (h := h1) (c := 10) hs (by omega)
  have n2 := k2.1
  unfold parseL
  generalize splitL (sb s) 10 = ls at e2 o2 s1 s2 s3
  have hw : IntKind.wrap .i64 (((ls.length : Nat) : Int) - 1) = ((ls.length - 1 : Nat) : Int) := by rw [w64i (by omega) (by omega)]; omega
  obtain ⟨ad, rfl, g⟩ := strs_at (base := base) (t := 0) o2.sl (i := ls.length - 1) (by omega)
  have o1' := o1.keepN k2
  have k02 := kN k1 k2
  have fl : ∀ b, blk (at0 h.length) b → h.length ≤ b := fun b hb' => by rw [blk_at0] at hb'; omega
  have start : ∀ {r : Value × AH}, ((if (!emp (bstr (ls.getD (ls.length - 1) []))) = true then
      some (Value.tuple #[(.slice (some ⟨(List.length h), 0, none⟩) 0 0), (.bool false)], h2)
      else
      (some (h2 ++ [some ⟨[], 116⟩])).bind fun h6 =>
      (loopL (B124_0 base) [some (.slice (some ⟨(List.length h), 0, none⟩) 0 0), some (.slice (some ad) ls.length ls.length), some (.int .i64 ((ls.length - 1 : Nat) : Int)), some (.slice (some ⟨(List.length h2), 0, none⟩) 0 0), some (.int .i64 (0 : Int))] h6).bind fun q7 =>
      (if q7.1 = 1 then
      ((sget q7.2.1 0).bind getS).bind fun l8 =>
      ((sget (q7.2.1.tail) 0).bind getB).bind fun b9 =>
      some ((.tuple #[(.slice l8.1 l8.2 l8.2), (.bool b9)]), q7.2.2)
      else
      (if q7.1 = 2 then
      ((sget q7.2.1 0).bind getS).bind fun l10 =>
      ((sget (q7.2.1.tail) 0).bind getS).bind fun l11 =>
      (run (Et base) 77 [(.slice l11.1 l11.2 l11.2)] q7.2.2).bind fun r12 =>
      ((some r12.1).bind getB).bind fun b13 =>
      (if (!b13) = true then
      some ((.tuple #[(.slice l10.1 l10.2 l10.2), (.bool false)]), r12.2)
      else
      some ((.tuple #[(.slice l11.1 l11.2 l11.2), (.bool true)]), r12.2))
      else
      none))) = some r) → run (Et base) 124 [.string s] h = some r := by
    intro r hr
    refine r124 (lets fun y ey => ?_)
    rw [hh1] at ey
    subst ey
    refine bs e2 (bS rfl ?_)
    rw [hw]
    refine ifT ⟨by omega, by omega⟩ (bs rfl ?_)
    rw [Int.toNat_natCast, Nat.mul_one]
    exact bT g hr
  cases c0 : emp (bstr (ls.getD (ls.length - 1) [])) with
  | false =>
    rw [c0] at start
    rw [if_pos (by decide)]
    exact ⟨at0 h.length, h2, start (ifT rfl rfl), o1', fl, fun x hx => (by cases hx), k02⟩
  | true =>
    rw [c0] at start
    rw [if_neg (by decide)]
    obtain ⟨o6, k6, q6'⟩ := box_own (base := base) (t := 116) (h := h2) (cs := []) (by omega) rfl
    generalize hh6 : h2 ++ [some (⟨[], 116⟩ : Blk)] = h6 at o6 k6 q6'
    obtain ⟨h7, k7, m7⟩ := parse_loop (base := base) (lo := h2.length) (a4 := at0 h.length) s1 s3 (by omega) (fun b hb' => (o2.lt hb').2) (N := ls.length - 1) (by omega) (ls.length - 1) 0 h6 (at0 h2.length) [] (by omega) rfl (by omega) (o2.keepN k6).sl o6 (fun b hb' => by rw [blk_at0] at hb'; omega) (fun x hx => (by cases hx))
    have n7 := k7.1
    have k07 : KB NoB h h7 := kFresh (kN k02 k6) k7 fun i hi => by omega
    have o17 := (o1'.keepN k6).keep k7 fun b hb' hk => by rw [blk_at0] at hb'; omega
    cases hp : pcF ls (ls.length - 1) 0 [] with
    | none =>
      rw [hp] at m7
      refine ⟨at0 h.length, h7, start (ifF (by decide) (lets fun y ey => ?_)), o17, fl, fun x hx => (by cases hx), k07⟩
      have ey2 : y = h6 := by rw [ey]; exact hh6
      subst ey2
      exact bs m7 (ifT rfl (bS rfl (bB rfl rfl)))
    | some o =>
      rw [hp] at m7
      obtain ⟨ao', y1, y2, y3, y4, y5⟩ := m7
      obtain ⟨h12, e12, k12⟩ := specCodeOk_run (base := base) (fun x hx => by have := y4 x hx; omega) (by omega) y2.sl (by omega)
      simp only
      cases cc : codeOk o with
      | false =>
        rw [cc] at e12
        rw [if_neg (by decide)]
        refine ⟨at0 h.length, h12, start (ifF (by decide) (lets fun y ey => ?_)), o17.keepN k12, fl, fun x hx => (by cases hx), kN k07 k12⟩
        have ey2 : y = h6 := by rw [ey]; exact hh6
        subst ey2
        exact bs y1 (ifF (show ¬ (2 : Nat) = 1 by decide) (ifT rfl (bS rfl (bS rfl (bs e12 (bB rfl (ifT rfl rfl)))))))
      | true =>
        rw [cc] at e12
        rw [if_pos rfl]
        refine ⟨ao', h12, start (ifF (by decide) (lets fun y ey => ?_)), y2.keepN k12, fun b hb' => by have := y3 b hb'; omega, y4, kN k07 k12⟩
        have ey2 : y = h6 := by rw [ey]; exact hh6
        subst ey2
        exact bs y1 (ifF (show ¬ (2 : Nat) = 1 by decide) (ifT rfl (bS rfl (bS rfl (bs e12 (bB rfl (ifF (by decide) rfl)))))))

/-! ### The six codes of the draws are right -/
theorem emp_size (s : ByteArray) : emp s = (s.size == 0) := by
  unfold emp
  rw [toList_data, toList_data]
  show (s.data.toList == []) = (s.size == 0)
  have : s.size = s.data.toList.length := by simp
  rw [this]
  cases s.data.toList <;> rfl
def specB2 (x : In) (n : Int) : Bool :=
  inB n 1 200 && (inB x.op 1 20 && (regB (shp x.op) 65 x.a && (regB (shp x.op) 67 x.c && ((if (x.op == (11 : Int)) = true then inB x.b 1 6 else regB (shp x.op) 66 x.b) && ((if (x.op == (2 : Int)) = true then atomOk x.s else (x.s.size == 0)) && numB x n)))))
theorem specB2_eq (x : In) (n : Int) : specB2 x n = specB x n := by
  unfold specB2 specB
  rw [emp_size]
def allIns2 (n : Int) : List In → Bool
  | [] => true
  | x :: r => specB2 x n && allIns2 n r
theorem allIns2_eq (n : Int) : ∀ l, allIns2 n l = allIns n l
  | [] => rfl
  | x :: r => by rw [allIns2, allIns, specB2_eq, allIns2_eq n r]
def codeOk2 (l : List In) : Bool := inB (l.length : Int) 1 200 && ((lastOp l == (19 : Int) || lastOp l == (12 : Int)) && allIns2 (l.length : Int) l)
theorem codeOk2_eq (l : List In) : codeOk2 l = codeOk l := by unfold codeOk2 codeOk; rw [allIns2_eq]
def parse2 (zs : List Int) : Bool := ((splitL zs 10).getD ((splitL zs 10).length - 1) []).isEmpty && (match pcF (splitL zs 10) ((splitL zs 10).length - 1) 0 [] with
    | some o => codeOk2 o
    | none => false)
theorem parse2_ok {zs : List Int} (h : parse2 zs = true) : (parseL zs).2 = true := by
  unfold parse2 at h
  rw [Bool.and_eq_true] at h
  obtain ⟨h1, h2⟩ := h
  unfold parseL
  have e : (splitL zs 10).getD ((splitL zs 10).length - 1) [] = [] := List.isEmpty_iff.1 h1
  rw [e, if_neg (by rw [emp_size, bstr_size]; decide)]
  cases hp : pcF (splitL zs 10) ((splitL zs 10).length - 1) 0 [] with
  | none => rw [hp] at h2; cases h2
  | some o =>
    rw [hp] at h2
    simp only at h2 ⊢
    rw [codeOk2_eq] at h2
    rw [if_pos h2]
theorem parse_ok {zs : List Int} (h : (parseL zs).2 = true) : codeOk (parseL zs).1 = true := by
  unfold parseL at h ⊢
  split
  · rename_i c; rw [if_pos c] at h; cases h
  · rename_i c
    rw [if_neg c] at h
    split
    · rename_i o ho
      rw [ho] at h
      simp only at h
      split
      · rename_i c2; exact c2
      · rename_i c2; rw [if_neg c2] at h; cases h
    · rename_i ho
      rw [ho] at h
      cases h
def cdL : List ByteArray := [⟨#[116, 97, 107, 101, 32, 48, 10, 107, 105, 110, 100, 32, 48, 32, 50, 32, 53, 10, 115, 97, 121, 32, 48, 10, 106, 117, 109, 112, 32, 48, 10, 110, 105, 108, 32, 49, 10, 104, 101, 97, 100, 32, 49, 32, 48, 10, 116, 97, 105, 108, 32, 50, 32, 48, 10, 115, 97, 121, 32, 49, 10, 106, 117, 109, 112, 32, 48, 10]⟩, ⟨#[116, 97, 107, 101, 32, 48, 10, 115, 101, 108, 102, 32, 49, 10, 105, 110, 116, 32, 50, 32, 49, 10, 116, 117, 112, 108, 101, 32, 51, 32, 48, 32, 51, 10, 101, 108, 101, 109, 32, 52, 32, 51, 32, 50, 10, 97, 100, 100, 32, 53, 32, 52, 32, 50, 10, 115, 97, 121, 32, 51, 10, 115, 97, 109, 101, 32, 48, 32, 49, 32, 49, 48, 10, 115, 101, 110, 100, 32, 49, 32, 53, 10, 106, 117, 109, 112, 32, 48, 10, 115, 101, 110, 100, 32, 48, 32, 51, 10, 106, 117, 109, 112, 32, 48, 10]⟩, ⟨#[105, 110, 116, 32, 49, 32, 48, 10, 116, 97, 107, 101, 32, 48, 10, 107, 105, 110, 100, 32, 48, 32, 49, 32, 53, 10, 97, 100, 100, 32, 49, 32, 49, 32, 48, 10, 106, 117, 109, 112, 32, 49, 10, 115, 97, 121, 32, 49, 10, 101, 110, 100, 32, 48, 10]⟩, ⟨#[116, 97, 107, 101, 32, 48, 10, 109, 97, 107, 101, 32, 49, 32, 48, 32, 52, 10, 108, 105, 110, 107, 32, 49, 10, 106, 117, 109, 112, 32, 48, 10, 115, 101, 108, 102, 32, 50, 10, 115, 97, 121, 32, 48, 10, 116, 97, 107, 101, 32, 51, 10, 101, 110, 100, 32, 51, 10]⟩, ⟨#[110, 105, 108, 32, 49, 10, 116, 97, 107, 101, 32, 48, 10, 99, 111, 110, 115, 32, 49, 32, 48, 32, 49, 10, 115, 97, 121, 32, 49, 10, 106, 117, 109, 112, 32, 49, 10]⟩, ⟨#[116, 97, 107, 101, 32, 48, 10, 101, 110, 100, 32, 48, 10]⟩]
def czL : List (List Int) := [[116, 97, 107, 101, 32, 48, 10, 107, 105, 110, 100, 32, 48, 32, 50, 32, 53, 10, 115, 97, 121, 32, 48, 10, 106, 117, 109, 112, 32, 48, 10, 110, 105, 108, 32, 49, 10, 104, 101, 97, 100, 32, 49, 32, 48, 10, 116, 97, 105, 108, 32, 50, 32, 48, 10, 115, 97, 121, 32, 49, 10, 106, 117, 109, 112, 32, 48, 10], [116, 97, 107, 101, 32, 48, 10, 115, 101, 108, 102, 32, 49, 10, 105, 110, 116, 32, 50, 32, 49, 10, 116, 117, 112, 108, 101, 32, 51, 32, 48, 32, 51, 10, 101, 108, 101, 109, 32, 52, 32, 51, 32, 50, 10, 97, 100, 100, 32, 53, 32, 52, 32, 50, 10, 115, 97, 121, 32, 51, 10, 115, 97, 109, 101, 32, 48, 32, 49, 32, 49, 48, 10, 115, 101, 110, 100, 32, 49, 32, 53, 10, 106, 117, 109, 112, 32, 48, 10, 115, 101, 110, 100, 32, 48, 32, 51, 10, 106, 117, 109, 112, 32, 48, 10], [105, 110, 116, 32, 49, 32, 48, 10, 116, 97, 107, 101, 32, 48, 10, 107, 105, 110, 100, 32, 48, 32, 49, 32, 53, 10, 97, 100, 100, 32, 49, 32, 49, 32, 48, 10, 106, 117, 109, 112, 32, 49, 10, 115, 97, 121, 32, 49, 10, 101, 110, 100, 32, 48, 10], [116, 97, 107, 101, 32, 48, 10, 109, 97, 107, 101, 32, 49, 32, 48, 32, 52, 10, 108, 105, 110, 107, 32, 49, 10, 106, 117, 109, 112, 32, 48, 10, 115, 101, 108, 102, 32, 50, 10, 115, 97, 121, 32, 48, 10, 116, 97, 107, 101, 32, 51, 10, 101, 110, 100, 32, 51, 10], [110, 105, 108, 32, 49, 10, 116, 97, 107, 101, 32, 48, 10, 99, 111, 110, 115, 32, 49, 32, 48, 32, 49, 10, 115, 97, 121, 32, 49, 10, 106, 117, 109, 112, 32, 49, 10], [116, 97, 107, 101, 32, 48, 10, 101, 110, 100, 32, 48, 10]]
theorem cd_cz : cdL.map sb = czL := by kernel_rfl
theorem cz_ok : czL.all parse2 = true := by kernel_rfl
theorem cd_size : ∀ s ∈ cdL, s.size ≤ 1048576 := by decide
end Go.Proofs.Ytnmjhhipbfngkaa.Am
