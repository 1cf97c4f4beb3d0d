/- The law FnCut: the bytes of drawn code that are cut are none.
Conditions: none. -/
import Derived.Test.YtnmjhhipbfngkaaSs
import Derived.DataShut
set_option linter.unusedSimpArgs false
set_option linter.unusedVariables false
namespace Go.Proofs.Ytnmjhhipbfngkaa.Am
open Go Go.RowKit

/-! ### No code's bytes go on -/
theorem sixL_pre {bs r : List Int} : ∀ {d : Nat} {a : Int} {acc : List Int} {p : List Int × Int}, sixL bs d a acc = some p → sixL (bs ++ r) d a acc = some p
  | 0, _, _, _, h => h
  | d + 1, a, acc, p, h => by
    rw [sixL] at h ⊢
    cases hg : gnL bs a 4 0 0 with
    | none => rw [hg] at h; cases h
    | some q =>
      rw [hg] at h
      rw [gn_pre hg]
      exact sixL_pre h
theorem pI_pre {bs r : List Int} (hz : ∀ x ∈ bs, 0 ≤ x ∧ x ≤ 255) : ∀ {d a : Nat} {out : List In} {p : Int × List In}, a ≤ bs.length → pI bs d (a : Int) out = some p → pI (bs ++ r) d (a : Int) out = some p
  | 0, _, _, _, _, h => h
  | d + 1, a, out, p, ha, h => by
    rw [pI] at h ⊢
    cases h6 : sixL bs 6 (a : Int) [] with
    | none => rw [h6] at h; cases h
    | some q =>
      obtain ⟨vs', e⟩ := q
      rw [h6] at h
      rw [sixL_pre h6]
      simp only [Option.bind_some] at h ⊢
      obtain ⟨vs, e', g1, g2, rfl, g4, g5, g6⟩ := sixL_split hz ha h6
      split at h
      · rename_i c
        simp only [Bool.and_eq_true, inB, decide_eq_true_eq] at c
        obtain ⟨k5, hk5⟩ : ∃ k5 : Nat, vs'.getD 5 0 = (k5 : Int) := ⟨(vs'.getD 5 0).toNat, by omega⟩
        have hm : mkIn (bs ++ r) vs' (e' : Int) = mkIn bs vs' (e' : Int) := by
          unfold mkIn
          rw [hk5, Int.toNat_natCast, Int.toNat_natCast, List.drop_append_of_le_length g5, List.take_append_of_le_length (by simp; omega)]
        rw [if_pos (by simp only [Bool.and_eq_true, inB, decide_eq_true_eq, List.length_append]; omega), hm]
        rw [hk5, show (e' : Int) + (k5 : Int) = ((e' + k5 : Nat) : Int) from by omega] at h ⊢
        exact pI_pre hz (by omega) h
      · cases h
theorem code_parse {l : List In} (ok : codeOk l = true) : gnL (codeB l) 0 4 0 0 = some ((l.length : Int), (((encN (l.length : Int)).length : Nat) : Int)) ∧ pI (codeB l) l.length (((encN (l.length : Int)).length : Nat) : Int) [] = some (((codeB l).length : Int), l) := by
  have hr := codeOk_rng ok
  obtain ⟨h200, h1, _⟩ := codeOk_spec ok
  have hin : inB (l.length : Int) (-1000000) 1000000 = true := by simp only [inB, Bool.and_eq_true, decide_eq_true_eq]; omega
  have hd : (codeB l).drop 0 = encN (l.length : Int) ++ insBs l := by rw [List.drop_zero]; rfl
  have hg := gn_join (Nat.zero_le _) hd hin
  rw [Nat.zero_add, show ((0 : Nat) : Int) = 0 from rfl] at hg
  have hle : (encN (l.length : Int)).length ≤ (codeB l).length := by unfold codeB; rw [List.length_append]; omega
  have hd2 : (codeB l).drop (encN (l.length : Int)).length = insBs l := by unfold codeB; rw [List.drop_left]
  exact ⟨hg, by simpa using pI_join (out := []) hle hd2 hr (by simp; omega)⟩
theorem codeB_bytes {l : List In} : ∀ x ∈ codeB l, 0 ≤ x ∧ x ≤ 255 := by
  intro x hx
  rcases List.mem_append.1 hx with h | h
  · exact encN_bytes _ x h
  · exact insBs_bytes l x h
theorem code_prefix {l l' : List In} {r : List Int} (ok : codeOk l = true) (ok' : codeOk l' = true) (e : codeB l' = codeB l ++ r) : r = [] := by
  obtain ⟨g1, p1⟩ := code_parse ok
  obtain ⟨g2, p2⟩ := code_parse ok'
  rw [e] at g2 p2
  have g3 := gn_pre (r := r) g1
  rw [g2] at g3
  simp only [Option.some.injEq, Prod.mk.injEq] at g3
  obtain ⟨e1, e2⟩ := g3
  have hlen : l'.length = l.length := by omega
  rw [hlen] at p2
  have hle : (encN (l.length : Int)).length ≤ (codeB l).length := by unfold codeB; rw [List.length_append]; omega
  have p3 := pI_pre (r := r) codeB_bytes hle p1
  rw [p2] at p3
  simp only [Option.some.injEq, Prod.mk.injEq] at p3
  have := p3.1
  rw [List.length_append] at this
  exact List.eq_nil_of_length_eq_zero (by omega)
theorem cut_none {l : List In} {K : Nat} (ok : codeOk l = true) (hK : K < (codeB l).length) : (resI ((codeB l).take K)).2 = false := by
  cases h : (resI ((codeB l).take K)).2 with
  | false => rfl
  | true =>
    obtain ⟨h1, h2⟩ := resI_true h
    have e : codeB l = codeB (resI ((codeB l).take K)).1 ++ (codeB l).drop K := by rw [h2, List.take_append_drop]
    have := code_prefix h1 ok e
    have hl := congrArg List.length this
    simp at hl
    omega
theorem more_none {l : List In} (ok : codeOk l = true) : (resI (codeB l ++ [0])).2 = false := by
  cases h : (resI (codeB l ++ [0])).2 with
  | false => rfl
  | true =>
    obtain ⟨h1, h2⟩ := resI_true h
    have := code_prefix ok h1 h2
    cases this

/-! ### Drawn code -/
theorem allIns_of {n : Int} : ∀ {l : List In}, (∀ x ∈ l, specB x n = true) → allIns n l = true
  | [], _ => rfl
  | x :: r, h => by
    rw [allIns, h x (List.mem_cons_self ..), allIns_of fun y hy => h y (List.mem_cons_of_mem _ hy)]
    rfl
theorem code_loop {base cb lo : Nat} (hcb : cb < lo) (hlo : base ≤ lo) {n : Int} (hn0 : 1 ≤ n) (hn : n ≤ 12) : ∀ (d i : Nat) (h : AH) (ao : Option Addr) (acc : List In), (i : Int) + 1 + (d : Int) = n → CurR base cb h → lo ≤ h.length → Own base 116 h ao (insR acc) → (∀ b, blk ao b → lo ≤ b) → acc.length = i → (∀ x ∈ acc, specB x n = true) →
    ∃ h' ao' acc', loopL (B88_0 base) [some (.pointer (at0 cb)), some (.int .i64 n), some (.slice ao acc.length acc.length), some (.int .i64 (i : Int))] h = some (2, [some (.pointer (at0 cb)), some (.int .i64 n), some (.slice ao' (List.length acc') (List.length acc'))], h') ∧ CurR base cb h' ∧ Own base 116 h' ao' (insR acc') ∧ (∀ b, blk ao' b → lo ≤ b) ∧ ((acc'.length : Nat) : Int) + 1 = n ∧ (∀ x ∈ acc', specB x n = true) ∧ KB (fun b => b = cb ∨ lo ≤ b) h h' := by
  intro d
  induction d with
  | zero =>
    intro i h ao acc hi x hlh ow hao ha hs
    refine ⟨h, ao, acc, loop_off (by decide) ?_, x, ow, hao, by omega, hs, KB.refl _ _⟩
    rw [B88_0_eq]
    rw [w64i (n := (i : Int) + 1) (by omega) (by omega)]
    exact ifF (by simp; omega) rfl
  | succ d ih =>
    intro i h ao acc hi x hlh ow hao ha hs
    obtain ⟨y, h1, e1, hy, x1, k1⟩ := l8Draw_run (n := n) x hn0 (by omega)
    have n1 := k1.1
    have ow1 := ow.keep k1 fun b hb hk => by have := hao b hb; omega
    obtain ⟨a6, h6, e6, o6, k6, b6, n6⟩ := Am.app1 (bytes := 56) ow1 (n := acc.length) (sz := 6) (cs := inV y) (insR_len acc) rfl (by decide) rfl (by omega) (by omega) (by omega)
    have eR : insR acc ++ inV y = insR (acc ++ [y]) := by rw [insR_app]; rfl
    rw [eR] at o6
    have k06 : KB (fun b => b = cb ∨ lo ≤ b) h h6 := KB.trans k1 k6 (fun _ _ h => .inl h) (fun b _ hb => .inr (hao b hb))
    obtain ⟨h7, a7, acc', y1, y2, y3, y4, y5, y6, y7⟩ := ih (i + 1) h6 a6 (acc ++ [y]) (by omega) (x1.keep k6 fun b hb => by have := hao b hb; omega) (by omega) o6 (fun b hb => by have := b6 b hb; omega) (by simp; omega) (fun z hz => by
      rcases List.mem_append.1 hz with h | h
      · exact hs z h
      · rw [List.mem_singleton] at h; subst h; exact hy)
    refine ⟨h7, a7, acc', loop_on ?_ y1, y2, y3, y4, y5, y6, KB.trans k06 y7 (fun _ _ h => h) (fun _ _ h => h)⟩
    rw [B88_0_eq]
    rw [w64i (n := (i : Int) + 1) (by omega) (by omega)]
    refine ifT (decide_eq_true (by omega)) (bs e1 (bs (v := inV y) rfl (bI rfl (bI rfl (bI rfl (bI rfl (bI rfl (bT rfl (lets fun z ez => ?_)))))))))
    subst ez
    refine bs e6 (bS rfl ?_)
    simp
theorem l8Code_run {base cb : Nat} {h : AH} (x : CurR base cb h) : ∃ (l : List In) (ao : Option Addr) (h' : AH), run (Et base) 88 [.pointer (at0 cb)] h = some (.slice ao l.length l.length, h') ∧ codeOk l = true ∧ Own base 116 h' ao (insR l) ∧ (∀ b, blk ao b → h.length ≤ b) ∧ (∀ y ∈ l, y.s.size ≤ 1048576) ∧ CurR base cb h' ∧ KB (· = cb) h h' := by
  have hlt := x.lt
  obtain ⟨b1, h1, e1, x1, k1, l1⟩ := l1Once_run (n := 2) x (by omega)
  cases b1 with
  | true =>
    obtain ⟨o3, k3, q3⟩ := box_own (base := base) (t := 9) (h := h1) (cs := cdL.map Value.string) (by omega) rfl
    generalize hh3 : h1 ++ [some (⟨cdL.map Value.string, 9⟩ : Blk)] = h3 at o3 k3 q3
    have e3 : run (Et base) 125 [] h1 = some (.slice (at0 h1.length) 6 6, h3) := r125 (lets fun y ey => by
      have : y = h3 := ey.trans hh3
      rw [this])
    obtain ⟨z, h5, e5, z0, z1, _, x5, k5, l5⟩ := l1Below_run (n := 6) (x1.keepN k3) (by omega)
    have z1 := z1 (by omega)
    obtain ⟨i, rfl⟩ : ∃ i : Nat, z = (i : Int) := ⟨z.toNat, by omega⟩
    have hi : i < cdL.length := by show i < 6; omega
    have g := (o3.keep k5 fun b hb hk => by rw [blk_at0] at hb; omega).at0 (i := i) (v := .string cdL[i]) (by simp [hi])
    have hp : (parseL (sb cdL[i])).2 = true := by
      apply parse2_ok
      have : sb cdL[i] ∈ czL := by rw [← cd_cz]; exact List.mem_map_of_mem (List.getElem_mem hi)
      exact List.all_eq_true.1 cz_ok _ this
    obtain ⟨ao, h9, e9, o9, f9, s9, k9⟩ := specParse_run (base := base) (h := h5) (cd_size _ (List.getElem_mem hi)) (by omega)
    refine ⟨(parseL (sb cdL[i])).1, ao, h9, r88 (bs e1 (bB rfl (ifT rfl (bs e3 (bS rfl (bs e5 (bI rfl (ifT ⟨z0, z1⟩ (bs rfl ?_))))))))), parse_ok hp, o9, fun b hb => by have := f9 b hb; omega, s9, x5.keepN k9, KB.trans (kC k1 (kNB k3 k5)) k9 (fun _ _ h => h) (fun _ _ h => h.elim)⟩
    rw [Int.toNat_natCast, Nat.mul_one, Nat.zero_add]
    exact bT g (bs e9 (bs rfl (bS rfl (bB rfl rfl))))
  | false =>
    obtain ⟨z, h2, e2, z0, z1, _, x2, k2, l2⟩ := l1Below_run (n := 10) x1 (by omega)
    have z1 := z1 (by omega)
    obtain ⟨o3, k3, q3⟩ := box_own (base := base) (t := 116) (h := h2) (cs := []) (by omega) rfl
    generalize hh3 : h2 ++ [some (⟨[], 116⟩ : Blk)] = h3 at o3 k3 q3
    obtain ⟨h7, a7, acc, e7, x7, o7, f7, hl7, hs7, k7⟩ := code_loop (base := base) (cb := cb) (lo := h2.length) (n := 3 + z) (by omega) (by omega) (by omega) (by omega) (2 + z).toNat 0 h3 (at0 h2.length) [] (by omega) (x2.keepN k3) (by omega) o3 (fun b hb => by rw [blk_at0] at hb; omega) rfl (fun y hy => nomatch hy)
    rw [show ((0 : Nat) : Int) = 0 from rfl] at e7
    have n7 := k7.1
    obtain ⟨u, h8, e8, u0, u1, _, x8, k8, l8⟩ := l1Below_run (n := 3 + z) x7 (by omega)
    have u1 := u1 (by omega)
    obtain ⟨a6, h6, e6, o6, k6, b6, n6⟩ := Am.app1 (bytes := 56) (o7.keep k8 fun b hb hk => by have := f7 b hb; omega) (n := acc.length) (sz := 6) (cs := inV ⟨12, 0, 0, 0, u, ⟨#[]⟩⟩) (insR_len acc) rfl (by decide) rfl (by omega) (by omega) (by omega)
    have eR : insR acc ++ inV ⟨12, 0, 0, 0, u, ⟨#[]⟩⟩ = insR (acc ++ [⟨12, 0, 0, 0, u, ⟨#[]⟩⟩]) := by rw [insR_app]; rfl
    rw [eR] at o6
    have hjump : specB ⟨12, 0, 0, 0, u, ⟨#[]⟩⟩ (3 + z) = true := by
      have inN : inB (3 + z) 1 200 = true := by simp only [inB, Bool.and_eq_true, decide_eq_true_eq]; omega
      have q1 : regB (shp 12) 65 0 = true := by decide
      have q2 : regB (shp 12) 67 0 = true := by decide
      have q3 : regB (shp 12) 66 0 = true := by decide
      have q4 : inB 12 1 20 = true := by decide
      unfold specB numB
      simp [inN, q1, q2, q3, q4, emp, u0, u1]
    have hall : ∀ y ∈ acc ++ [⟨12, 0, 0, 0, u, ⟨#[]⟩⟩], specB y (3 + z) = true := fun y hy => by
      rcases List.mem_append.1 hy with h | h
      · exact hs7 y h
      · rw [List.mem_singleton] at h; subst h; exact hjump
    have hlen : (((acc ++ [(⟨12, 0, 0, 0, u, ⟨#[]⟩⟩ : In)]).length : Nat) : Int) = 3 + z := by simp; omega
    refine ⟨acc ++ [⟨12, 0, 0, 0, u, ⟨#[]⟩⟩], a6, h6, r88 (bs e1 (bB rfl (ifF (by decide) (bs e2 (bI rfl (lets fun y ey => ?_)))))), ?_, o6, fun b hb => by have := b6 b hb; omega, fun y hy => by have := specB_size (hall y hy); omega, x8.keep k6 fun b hb => by have := f7 b hb; omega, ?_⟩
    · rw [hh3] at ey
      subst ey
      rw [w64i (n := 3 + z) (by omega) (by omega)]
      refine bs e7 (ifT rfl (bs rfl (bI rfl (bS rfl (bs e8 (bI rfl (lets fun y ey => ?_)))))))
      subst ey
      refine bs e6 (bS rfl ?_)
      simp
    · have hlast : lastOp (acc ++ [⟨12, 0, 0, 0, u, ⟨#[]⟩⟩]) = 12 := by
        unfold lastOp
        simp [List.getD]
      unfold codeOk
      rw [hlen, hlast, allIns_of hall]
      have : inB (3 + z) 1 200 = true := by simp only [inB, Bool.and_eq_true, decide_eq_true_eq]; omega
      rw [this]
      rfl
    · exact kCF (kC (KB.trans (kC k1 k2) (KB.trans (T := fun b => b = cb ∨ h2.length ≤ b) k3 k7 (fun _ _ h => h.elim) (fun _ _ h => h)) (fun _ _ h => h) (fun b hb h => by omega)) k8) k6 fun b hb => by have := f7 b hb; omega
theorem drawCode_run {base : Nat} {h : AH} {a : Option Addr} {zs : List Int} (s : Sl h a (iv .u8 zs)) (hz : zs = [] ∨ ∀ b, blk a b → b < base) (hl : zs.length ≤ 9223372036854775806) (hb : base ≤ h.length) :
    ∃ (l : List In) (ao : Option Addr) (h' : AH), run (Et base) 34 [.slice a zs.length zs.length] h = some (.slice ao l.length l.length, h') ∧ codeOk l = true ∧ Own base 116 h' ao (insR l) ∧ (∀ b, blk ao b → h.length ≤ b) ∧ (∀ y ∈ l, y.s.size ≤ 1048576) ∧ KB NoB h h' := by
  obtain ⟨h2, e2, x2, k2, l2⟩ := l1New_run (base := base) s hz hl hb
  obtain ⟨l, ao, h3, e3, ok, o3, f3, s3, x3, k3⟩ := l8Code_run x2
  exact ⟨l, ao, h3, r34 (bs e2 (bs rfl (bs e3 (bS rfl rfl)))), ok, o3, fun b hb' => by have := f3 b hb'; omega, s3, kFresh k2 k3 fun i hi => by omega⟩

/-! ### The law -/
theorem at_run {base : Nat} {h : AH} {a : Option Addr} {zs : List Int} {i : Nat} (s : Sl h a (iv .u8 zs)) (hz : ∀ z ∈ zs, 0 ≤ z ∧ z ≤ 255) (hl : zs.length ≤ 1048576) (hi : i ≤ 1000) :
    ∃ z, run (Et base) 35 [.slice a zs.length zs.length, .int .i64 (i : Int)] h = some (.int .i64 z, h) ∧ 0 ≤ z ∧ z ≤ 255 := by
  by_cases c : (i : Int) < ((zs.length : Nat) : Int)
  · obtain ⟨ad, rfl, g⟩ := s.int (i := i) (by omega)
    have hb := hz zs[i] (List.getElem_mem (by omega))
    refine ⟨zs[i], r35 (ifT (decide_eq_true c) (ifT ⟨by omega, c⟩ (bs rfl ?_))), hb.1, hb.2⟩
    rw [Int.toNat_natCast, Nat.mul_one]
    refine bs g ?_
    rw [w64i (by omega) (by omega)]
  · refine ⟨_, r35 (ifF (by simpa using c) rfl), ?_, ?_⟩
    · rw [w64i (n := (i : Int) * 31) (by omega) (by omega), w64i (n := ((zs.length : Nat) : Int) * 7) (by omega) (by omega), w64i (by omega) (by omega)]
      exact Int.tmod_nonneg _ (by omega)
    · have := Int.tmod_lt_of_pos (IntKind.wrap .i64 ((IntKind.wrap .i64 ((i : Int) * (31 : Int))) + (IntKind.wrap .i64 (((zs.length : Nat) : Int) * (7 : Int))))) (show (0 : Int) < 256 by decide)
      omega
theorem TyOk.shift {base t n : Nat} {h : AH} {a : Option Addr} (x : TyOk base h a t) : TyOk base h (shiftA a n) t := fun ad e => by
  cases a with
  | none => cases e
  | some ad0 =>
    simp only [shiftA, Option.map_some, Option.some.injEq] at e
    subst e
    exact x ad0 rfl
theorem cut_all {base : Nat} {h : AH} {a : Option Addr} {zs : List Int} (s : Sl h a (iv .u8 zs)) (hw : ∀ n ∈ zs, (Lit.int .u8 n).wf = true) (hb : h.length = base) :
    ∃ h', run (Et base) 6 [.slice a zs.length zs.length] h = some (.bool true, h') := by
  have hz : zs = [] ∨ ∀ b, blk a b → b < base := by
    rcases sl_below s with e | e
    · exact .inl (by cases zs with | nil => rfl | cons x r => simp [iv] at e)
    · exact .inr fun b hb' => by have := e b hb'; omega
  have hzb : ∀ z ∈ zs, 0 ≤ z ∧ z ≤ 255 := fun z hz' => by
    have := (Lit.wf_int_iff .u8 z).1 (hw z hz')
    simp only [IntKind.min, IntKind.max, IntKind.signed, IntKind.bits] at this
    simp at this
    omega
  have big : run (Et base) 33 [.slice a zs.length zs.length] h = some (.bool (decide (((zs.length : Nat) : Int) > (1048576 : Int))), h) := r33 rfl
  by_cases c : ((zs.length : Nat) : Int) > (1048576 : Int)
  · exact ⟨h, r6 (bs big (bB rfl (ifT (decide_eq_true c) rfl)))⟩
  obtain ⟨l, al, h3, e3, ok, o3, f3, s3, k3⟩ := drawCode_run (base := base) s hz (by omega) (by omega)
  have n3 := k3.1
  obtain ⟨h200, h1', _⟩ := codeOk_spec ok
  obtain ⟨ab, h5, e5, o5, f5, k5⟩ := implPutCode_run (base := base) (fun x hx => by have := s3 x hx; omega) (by omega) o3.sl (by omega)
  have n5 := k5.1
  have hp : pcB l = codeB l := by unfold pcB; rw [if_pos ok]
  have hlen := pcB_len l
  have hby := pcB_bytes (l := l)
  rw [hp] at e5 o5 hlen hby
  have hpos : 0 < (codeB l).length := by unfold codeB; rw [List.length_append]; have := encN_pos (l.length : Int); omega
  have k05 := kN k3 k5
  obtain ⟨z8, e8, z80, z81⟩ := at_run (base := base) (i := 2) (s.keepN k05) hzb (by omega) (by decide)
  obtain ⟨z10, e10, z100, z101⟩ := at_run (base := base) (i := 3) (s.keepN k05) hzb (by omega) (by decide)
  have hwr : IntKind.wrap .i64 ((IntKind.wrap .i64 (z8 * (256 : Int))) + z10) = z8 * 256 + z10 := by rw [w64i (n := z8 * 256) (by omega) (by omega), w64i (by omega) (by omega)]
  have t0 := Int.tmod_nonneg ((codeB l).length : Int) (show 0 ≤ z8 * 256 + z10 by omega)
  have t1 := Int.tmod_lt_of_pos (z8 * 256 + z10) (show (0 : Int) < ((codeB l).length : Int) by omega)
  obtain ⟨K, hK⟩ : ∃ K : Nat, Int.tmod (z8 * 256 + z10) ((codeB l).length : Int) = (K : Int) := ⟨_, (Int.toNat_of_nonneg t0).symm⟩
  have hKl : K < (codeB l).length := by omega
  -- cut
  have sl11 : Sl h5 (shiftA ab 0) (iv .u8 ((codeB l).take K)) := by
    have := o5.sl.part (n := 0) (m := K) (by simp; omega)
    have e : ((iv .u8 (codeB l)).drop 0).take K = iv .u8 ((codeB l).take K) := by simp [iv, List.map_take]
    rw [e] at this
    exact this
  have ty5 := TyOk.own o5
  obtain ⟨a11, h11, e11, o11, f11, _, k11⟩ := implGetCode_run (base := base) (fun z hz' => hby z (List.mem_of_mem_take hz')) (by simp; omega) sl11 ty5.shift (by omega)
  have n11 := k11.1
  rw [cut_none ok hKl] at e11
  have eK : ((codeB l).take K).length = K := by simp; omega
  rw [eK] at e11
  generalize (resI ((codeB l).take K)).1 = r11 at e11
  -- and more
  obtain ⟨o15, k15, q15⟩ := box_own (base := base) (t := 5) (h := h11) (cs := []) (by omega) rfl
  have sl15 : Sl (h11 ++ [some (⟨[], 5⟩ : Blk)]) ab (iv .u8 (codeB l)) := (o5.sl.keepN k11).keepN k15
  have raw15 : rawAt (h11 ++ [some (⟨[], 5⟩ : Blk)]) ab ((codeB l).length * 1) = some (iv .u8 (codeB l)) := by
    have := sl15.raw (iv_leaf _ _)
    rw [iv_length] at this
    rw [Nat.mul_one]
    exact this
  obtain ⟨a16, h16, e16, o16, k16, d16⟩ := Own.app (base := base) (bytes := 1) o15 (n := 0) (m := (codeB l).length) (sz := 1) rfl (by decide) raw15 (by omega) (by omega) (by omega) (by simp)
  rw [Nat.zero_add] at e16
  rw [List.nil_append] at o16
  have n16 := k16.1
  obtain ⟨a19, h19, e19, o19, k19, b19, n19⟩ := Am.app1 (bytes := 1) o16 (n := (codeB l).length) (sz := 1) (cs := [.int .u8 0]) (by simp) rfl (by decide) rfl (by omega) (by omega) (by omega)
  have eiv : iv .u8 (codeB l) ++ [Value.int .u8 0] = iv .u8 (codeB l ++ [0]) := by simp [iv]
  rw [eiv] at o19
  have el19 : (codeB l).length + 1 = (codeB l ++ [0]).length := by simp
  obtain ⟨a21, h21, e21, o21, f21, _, k21⟩ := implGetCode_run (base := base) (zs := codeB l ++ [0]) (fun z hz' => by
    rcases List.mem_append.1 hz' with h | h
    · exact hby z h
    · rw [List.mem_singleton] at h; subst h; omega) (by simp; omega) o19.sl (TyOk.own o19) (by omega)
  rw [more_none ok] at e21
  generalize (resI (codeB l ++ [0])).1 = r21 at e21
  rw [← el19] at e21
  refine ⟨h21, r6 (bs big (bB rfl (ifF (by simpa using c) (bs e3 (bS rfl (bs e5 (bS rfl (ifF (by simp only [beq_iff_eq]; omega) (bs e8 (bI rfl (bs e10 (bI rfl (ifF (by omega) ?_)))))))))))))⟩
  rw [hwr, hK]
  refine ifT ⟨by decide, by omega, by omega, ty5.ok _⟩ ?_
  rw [Int.toNat_natCast, Int.toNat_zero, Nat.sub_zero, Nat.zero_mul]
  refine bs e11 (bs rfl (bS rfl (bB rfl (lets fun y ey => ?_))))
  subst ey
  refine bs e16 (bS rfl (lets fun y ey => ?_))
  subst ey
  exact bs e19 (bS rfl (bs e21 (bs rfl (bS rfl (bB rfl (ifT rfl rfl))))))
end Go.Proofs.Ytnmjhhipbfngkaa.Am
