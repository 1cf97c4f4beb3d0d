/- What the functions of this law compute, lemma by lemma, up to the law.
Conditions: none. -/
import Derived.Test.YtolcnednfbbnnaaP1
import Derived.IntWalk
import Derived.Laws.BitsLemmas

set_option linter.unusedSimpArgs false
set_option linter.unusedVariables false
namespace Go.Proofs.Ytolcnednfbbnnaa.Am
open Go Go.RowKit

/-- A text's bytes as numbers. -/
def sb (s : ByteArray) : List Int := s.data.toList.map fun b => (b.toNat : Int)
theorem toList_loop (s : ByteArray) : ∀ (d i : Nat) (r : List UInt8), i + d = s.size → (ByteArray.toList.loop s i r).length = r.length + d
  | 0, i, r, h => by
    unfold ByteArray.toList.loop
    rw [if_neg (by omega)]
    simp
  | d + 1, i, r, h => by
    unfold ByteArray.toList.loop
    rw [if_pos (by omega), toList_loop s d (i + 1) _ (by omega)]
    simp only [List.length_cons]
    omega
theorem toList_len (s : ByteArray) : s.toList.length = s.size := by
  unfold ByteArray.toList
  rw [toList_loop s s.size 0 [] (by omega)]
  simp
/-- Short texts in code that is right. -/
theorem specB_size {x : In} {n : Int} (h : specB x n = true) : x.s.size ≤ 12 := by
  unfold specB at h
  simp only [Bool.and_eq_true] at h
  obtain ⟨_, _, _, _, _, h, _⟩ := h
  cases c : x.op == (2 : Int) with
  | true =>
    rw [c, if_pos rfl] at h
    unfold atomOk inB at h
    simp at h
    omega
  | false =>
    rw [c, if_neg (by decide)] at h
    unfold emp at h
    have := eq_of_beq h
    have h2 : x.s.toList.length = (⟨#[]⟩ : ByteArray).toList.length := by rw [this]
    rw [toList_len, toList_len] at h2
    have : (⟨#[]⟩ : ByteArray).size = 0 := rfl
    omega
theorem allIns_mem {n : Int} : ∀ {l : List In}, allIns n l = true → ∀ x ∈ l, specB x n = true
  | [], _, x, hx => by cases hx
  | y :: r, h, x, hx => by
    simp only [allIns, Bool.and_eq_true] at h
    rcases List.mem_cons.1 hx with rfl | hx
    · exact h.1
    · exact allIns_mem h.2 x hx
theorem codeOk_spec {l : List In} (h : codeOk l = true) : l.length ≤ 200 ∧ 1 ≤ l.length ∧ ∀ x ∈ l, x.s.size ≤ 12 := by
  unfold codeOk at h
  simp only [Bool.and_eq_true] at h
  obtain ⟨h1, _, h2⟩ := h
  unfold inB at h1
  simp at h1
  exact ⟨by omega, by omega, fun x hx => specB_size (allIns_mem h2 x hx)⟩
/-! the reference -/
/-! the program -/
end Go.Proofs.Ytolcnednfbbnnaa.Am


set_option linter.unusedSimpArgs false
set_option linter.unusedVariables false
namespace Go.Proofs.Ytolcnednfbbnnaa.Am
open Go Go.RowKit

/-! bounds of a right term -/
theorem sh_bd {k n : Int} {s : ByteArray} {m : Nat} (h : shB k n s m = true) : s.size ≤ 40 ∧ m ≤ 20 := by
  have e0 : ∀ {t : ByteArray}, (t.toList == (⟨#[]⟩ : ByteArray).toList) = true → t.size = 0 := fun {t} e => by
    have e := beq_iff_eq.1 e
    have := toList_len t
    rw [e] at this
    simpa using this.symm
  unfold shB at h
  split at h
  · simp only [Bool.and_eq_true] at h
    have := e0 h.1.2
    have := beq_iff_eq.1 h.2
    omega
  split at h
  · simp only [Bool.and_eq_true] at h
    have hh := h.1.2
    unfold atomOk inB at hh
    simp only [Bool.and_eq_true, decide_eq_true_eq] at hh
    have := beq_iff_eq.1 h.2
    omega
  split at h
  · simp only [Bool.and_eq_true] at h
    have := e0 h.1.2
    have := beq_iff_eq.1 h.2
    omega
  split at h
  · simp only [Bool.and_eq_true, decide_eq_true_eq] at h
    have := e0 h.1.2
    omega
  split at h
  · simp only [Bool.and_eq_true, decide_eq_true_eq] at h
    have := e0 h.1.2
    omega
  split at h
  · simp only [Bool.and_eq_true, decide_eq_true_eq] at h
    have := beq_iff_eq.1 h.2
    omega
  · cases h
theorem lk_cnt : ∀ (f : Nat) (t : Tm) (deep left : Int), 0 ≤ lk f t deep left → TmB f t ∧ (tcnt f t : Int) + 1 + lk f t deep left ≤ left
  | 0, _, _, _, h => by simp only [lk] at h; omega
  | f + 1, .mk k n s l, deep, left, h => by
    rw [lk] at h ⊢
    split at h
    · omega
    rename_i hn
    rw [if_neg hn]
    have hsh : shB k n s l.length = true := by
      cases c : shB k n s l.length with
      | true => rfl
      | false => exact absurd (.inr (.inr c)) hn
    obtain ⟨b1, b2⟩ := sh_bd hsh
    have hl : ∀ (r : List Tm) (d x : Int), 0 ≤ lkS (lk f) r d x → (∀ t ∈ r, TmB f t) ∧ ((r.length + sumL (tcnt f) r : Nat) : Int) + lkS (lk f) r d x ≤ x := by
      intro r
      induction r with
      | nil => intro d x hx; exact ⟨fun t ht => (by cases ht), by simp [sumL, lkS]⟩
      | cons t r ihr =>
        intro d x hx
        rw [lkS] at hx ⊢
        split at hx
        · rename_i h0
          rw [if_pos h0]
          have h1 : 0 ≤ lk f t d x := by
            by_cases hc : 0 ≤ lk f t d x
            · exact hc
            · rw [lkS_neg _ _ _ _ (by omega)] at hx; omega
          obtain ⟨a1, a2⟩ := lk_cnt f t d x h1
          obtain ⟨c1, c2⟩ := ihr d _ hx
          refine ⟨fun u hu => ?_, by simp only [List.length_cons, sumL]; omega⟩
          rcases List.mem_cons.1 hu with rfl | hu
          · exact a1
          · exact c1 u hu
        · omega
    obtain ⟨c1, c2⟩ := hl l (deep - 1) (left - 1) h
    refine ⟨⟨by omega, by omega, c1⟩, ?_⟩
    simp only [tcnt]
    omega
theorem tOk_B {f : Nat} {t : Tm} (h : tOk f t = true) : TmB f t ∧ tcnt f t ≤ 100 := by
  have h := of_decide_eq_true h
  obtain ⟨a, b⟩ := lk_cnt f t 6 100 h
  exact ⟨a, by omega⟩
/-! bounds of a right instruction -/
def InB (x : In) : Prop := (0 ≤ x.a ∧ x.a ≤ 7) ∧ (0 ≤ x.b ∧ (x.op = 11 ∨ x.b ≤ 7)) ∧ (0 ≤ x.c ∧ x.c ≤ 7) ∧ (x.op = 4 → 0 ≤ x.n ∧ x.b + x.n ≤ 8) ∧ (x.op = 6 → 0 ≤ x.n) ∧ 1 ≤ x.op ∧ x.op ≤ 20
theorem reg_bd {s : ByteArray} {c r : Int} (h : regB s c r = true) : 0 ≤ r ∧ r ≤ 7 := by
  unfold regB at h
  split at h
  · have := beq_iff_eq.1 h; omega
  · unfold inB at h
    simp only [Bool.and_eq_true, decide_eq_true_eq] at h
    omega
theorem specB_bd {x : In} {n : Int} (h : specB x n = true) : InB x := by
  unfold specB at h
  simp only [Bool.and_eq_true] at h
  obtain ⟨_, h2, h3, h4, h5, _, h7⟩ := h
  have ha := reg_bd h3
  have hc := reg_bd h4
  have hb : 0 ≤ x.b ∧ (x.op = 11 ∨ x.b ≤ 7) := by
    split at h5
    · rename_i e
      have e := beq_iff_eq.1 e
      unfold inB at h5
      simp only [Bool.and_eq_true, decide_eq_true_eq] at h5
      exact ⟨by omega, .inl e⟩
    · have := reg_bd h5
      exact ⟨this.1, .inr this.2⟩
  unfold inB at h2
  simp only [Bool.and_eq_true, decide_eq_true_eq] at h2
  refine ⟨ha, hb, hc, fun e => ?_, fun e => ?_, h2.1, h2.2⟩
  · have hb7 : x.b ≤ 7 := hb.2.resolve_left (by omega)
    unfold numB at h7
    rw [if_neg (by rw [e]; decide), if_pos (by rw [e]; decide)] at h7
    split at h7
    · rename_i hn
      unfold inB at hn
      simp only [Bool.and_eq_true, decide_eq_true_eq] at hn h7
      rw [w64i (by omega) (by omega)] at h7
      omega
    · cases h7
  · unfold numB at h7
    rw [if_neg (by rw [e]; decide), if_neg (by rw [e]; decide), if_pos (by rw [e]; decide)] at h7
    unfold inB at h7
    simp only [Bool.and_eq_true, decide_eq_true_eq] at h7
    omega
theorem codeOk_bd {l : List In} (h : codeOk l = true) : ∀ x ∈ l, InB x := by
  unfold codeOk at h
  simp only [Bool.and_eq_true] at h
  exact fun x hx => specB_bd (allIns_mem h.2.2 x hx)

/-! what an instruction does -/
structure Acd where
  kind : Int
  pid : Int
  pc : Int
  t : Tm
abbrev actV (kind pid pc k n : Int) (s : ByteArray) (a : Option Addr) (m : Nat) : List Value := [.int .i64 kind, .int .i64 pid, .int .i64 pc, .int .i64 k, .int .i64 n, .string s, .slice a m m]
def Tm.kd : Tm → Int | .mk k _ _ _ => k
def Tm.nm : Tm → Int | .mk _ n _ _ => n
def Tm.ls : Tm → List Tm | .mk _ _ _ l => l
def tmZ : Tm := .mk 0 0 ⟨#[]⟩ []
def rg (R : List Tm) (i : Int) : Tm := R.getD i.toNat tmZ
def actsF (x : In) (R : List Tm) (next : Int) : Acd × Bool :=
  if (x.op == (13 : Int)) = true then (⟨3, (rg R x.a).nm, 0, rg R x.b⟩, (rg R x.a).kd == (3 : Int))
  else if (x.op == (16 : Int)) = true then (⟨4, next, x.n, rg R x.b⟩, true)
  else if (x.op == (17 : Int)) = true then (⟨5, 0, 0, rg R x.a⟩, true)
  else if (x.op == (18 : Int)) = true then (⟨6, (rg R x.a).nm, 0, tmZ⟩, (rg R x.a).kd == (3 : Int))
  else if (x.op == (19 : Int)) = true then (⟨7, 0, 0, rg R x.a⟩, true)
  else (⟨1, 0, 0, tmZ⟩, true)
def madeF (x : In) (R : List Tm) (pid next : Int) : Option Tm :=
  if (x.op == (1 : Int)) = true then some (.mk 1 x.n ⟨#[]⟩ [])
  else if (x.op == (2 : Int)) = true then some (.mk 2 0 x.s [])
  else if (x.op == (20 : Int)) = true then some (.mk 5 0 ⟨#[]⟩ [])
  else if (x.op == (3 : Int)) = true then some (rg R x.b)
  else if (x.op == (4 : Int)) = true then some (.mk 4 0 ⟨#[]⟩ ((R.drop x.b.toNat).take x.n.toNat))
  else if (x.op == (5 : Int)) = true then (if ((rg R x.c).kd == (5 : Int)) = true then some (.mk 5 0 ⟨#[]⟩ (rg R x.b :: (rg R x.c).ls)) else none)
  else if (x.op == (6 : Int)) = true then (if (if ((rg R x.b).kd != (4 : Int)) = true then true else decide (x.n ≥ ((rg R x.b).ls.length : Int))) = true then none else some ((rg R x.b).ls.getD x.n.toNat tmZ))
  else if (x.op == (7 : Int)) = true then (if (if ((rg R x.b).kd != (5 : Int)) = true then true else (((rg R x.b).ls.length : Int) == (0 : Int))) = true then none else some ((rg R x.b).ls.getD 0 tmZ))
  else if (x.op == (8 : Int)) = true then (if (if ((rg R x.b).kd != (5 : Int)) = true then true else (((rg R x.b).ls.length : Int) == (0 : Int))) = true then none else some (.mk 5 0 ⟨#[]⟩ ((rg R x.b).ls.drop 1)))
  else if (x.op == (9 : Int)) = true then (if ((rg R x.b).kd == (1 : Int)) = true then (if ((rg R x.c).kd == (1 : Int)) = true then some (.mk 1 (IntKind.wrap .i64 ((rg R x.b).nm + (rg R x.c).nm)) ⟨#[]⟩ []) else none) else none)
  else if (x.op == (15 : Int)) = true then some (.mk 3 pid ⟨#[]⟩ [])
  else some (.mk 3 next ⟨#[]⟩ [])
def makesF (op : Int) : Bool := !(if (op == (10 : Int)) = true then true else if (op == (11 : Int)) = true then true else if (op == (12 : Int)) = true then true else if (op == (13 : Int)) = true then true else if (op == (17 : Int)) = true then true else if (op == (18 : Int)) = true then true else (op == (19 : Int)))
def jumpsF (f : Nat) (x : In) (R : List Tm) : Bool := if (x.op == (10 : Int)) = true then !sameB f (rg R x.a) (rg R x.b) else if (x.op == (11 : Int)) = true then ((rg R x.a).kd != x.b) else (x.op == (12 : Int))

/-! rows -/
theorem TsR.part {h : AH} {p : Nat → Prop} {f : Nat} {l : List Tm} {a : Option Addr} (x : TsR h p f l a) {i n : Nat} (hin : i + n ≤ l.length) : TsR h p f ((l.drop i).take n) (shiftA a (i * 4)) := by
  obtain ⟨vs, h1, h2, h3, h4⟩ := x
  refine ⟨(vs.drop (i * 4)).take (n * 4), h1.part (by omega), ?_, ?_, fun j t hj => ?_⟩
  · rcases h2 with e | h2
    · exact .inl (by rw [e]; simp)
    · refine .inr fun b hb => ?_
      obtain ⟨ad, e, hb⟩ := hb
      cases a with
      | none => cases e
      | some a0 =>
        injection e with e
        subst e
        exact h2 b ⟨a0, rfl, hb⟩
  · simp; omega
  · have hjn : j < n := by have := (List.getElem?_eq_some_iff.1 hj).1; simp at this; omega
    rw [List.getElem?_take_of_lt hjn, List.getElem?_drop] at hj
    have := h4 _ _ hj
    rw [show (((vs.drop (i * 4)).take (n * 4)).drop (j * 4)).take 4 = (vs.drop ((i + j) * 4)).take 4 from ?_]
    · exact this
    · apply List.ext_getElem?
      intro q
      by_cases hq : q < 4
      · rw [List.getElem?_take_of_lt hq, List.getElem?_take_of_lt hq, List.getElem?_drop, List.getElem?_drop, List.getElem?_take_of_lt (by omega), List.getElem?_drop, show i * 4 + (j * 4 + q) = (i + j) * 4 + q from by omega]
      · rw [List.getElem?_eq_none (by simp; omega), List.getElem?_eq_none (by simp; omega)]
theorem termV_leaf {cs : List Value} {h : AH} {p : Nat → Prop} {f : Nat} {t : Tm} (x : TmR h p f t cs) : ∀ v ∈ cs, leaf v = true := by
  obtain ⟨k, n, s, a, m, rfl⟩ := x.form
  intro v hv
  simp only [List.mem_cons, List.not_mem_nil, or_false] at hv
  rcases hv with rfl | rfl | rfl | rfl <;> rfl
theorem TsR.raw {h : AH} {p : Nat → Prop} {f : Nat} {l : List Tm} {a : Option Addr} (x : TsR h p f l a) : ∃ vs, rawAt h a (l.length * 4) = some vs ∧ vs.length = l.length * 4 ∧ ∀ i t, l[i]? = some t → TmR h p f t ((vs.drop (i * 4)).take 4) := by
  obtain ⟨vs, h1, h2, h3, h4⟩ := x
  refine ⟨vs, ?_, h3, h4⟩
  rw [← h3]
  refine h1.raw ?_
  rw [List.all_eq_true]
  intro v hv
  obtain ⟨q, hq, rfl⟩ := List.mem_iff_getElem.1 hv
  have hi : q / 4 < l.length := by omega
  have hm := h4 (q / 4) _ (List.getElem?_eq_getElem hi)
  refine termV_leaf hm _ (List.mem_iff_getElem.2 ⟨q % 4, by simp; omega, ?_⟩)
  simp only [List.getElem_take, List.getElem_drop]
  congr 1
  omega
/-- One entry of a row that may grow. -/
theorem RowO.getG {base t f : Nat} {S : Fp} {h : AH} {l : List Tm} {al : Option Addr} (x : RowO base t 4 (TmG base f) S h l al) {i : Nat} (hi : i < l.length) :
    ∃ ad k n s a2 m C, al = some ad ∧ ad.block < h.length ∧ Am.cell h ad.block (ad.off + i * 4) = some (.int .i64 k) ∧ Am.cell h ad.block (ad.off + i * 4 + 1) = some (.int .i64 n) ∧ Am.cell h ad.block (ad.off + i * 4 + 1 + 1) = some (.string s) ∧ Am.cell h ad.block (ad.off + i * 4 + 1 + 1 + 1) = some (.slice a2 m m) ∧ TmG base f C h l[i] (termV k n s a2 m) ∧ (∀ b, C b → S b) := by
  obtain ⟨vs, T, x1, x2, x3, x4, C, c1, c2, c3⟩ := x
  have hm := c3 i _ (List.getElem?_eq_getElem hi)
  obtain ⟨k, n, s, a2, m, e⟩ := hm.form
  rw [e] at hm
  have each : ∀ (j : Nat) (v : Value), (termV k n s a2 m)[j]? = some v → vs[i * 4 + j]? = some v := by
    intro j v hv
    have hj : j < 4 := by have := (List.getElem?_eq_some_iff.1 hv).1; simpa using this
    rw [← e] at hv
    unfold chunk at hv
    rw [List.getElem?_take_of_lt hj, List.getElem?_drop] at hv
    exact hv
  have hne : vs ≠ [] := by intro e; subst e; simp at x2; omega
  rcases x1 with ⟨_, e2⟩ | ⟨ad, kk, e1, _, e2, _, _, e4⟩
  · exact absurd e2 hne
  · have c : ∀ (j : Nat) (v : Value), (termV k n s a2 m)[j]? = some v → Am.cell h ad.block (ad.off + i * 4 + j) = some v := by
      intro j v hv
      have := e4 _ _ (each j v hv)
      rw [Nat.add_assoc]
      simp [Am.cell, e2, this]
    exact ⟨ad, k, n, s, a2, m, C i, e1, hget_lt e2, c 0 _ rfl, c 1 _ rfl, c 2 _ rfl, c 3 _ rfl, hm, fun b hb => x4 b (c1 i b hb)⟩
theorem RowO.tyOk {α : Type} {w base t : Nat} {P : Fp → AH → α → List Value → Prop} {S : Fp} {h : AH} {l : List α} {a : Option Addr} (x : RowO base t w P S h l a) (n : Nat) : okTy base h a t n = true := by
  obtain ⟨vs, T, x1, _⟩ := x
  exact (TyOk.own x1).ok n
theorem rg_eq {R : List Tm} {i : Int} (h0 : 0 ≤ i) (h1 : i.toNat < R.length) : rg R i = R[i.toNat] := by
  unfold rg
  simp [h1]
end Go.Proofs.Ytolcnednfbbnnaa.Am


set_option linter.unusedSimpArgs false
set_option linter.unusedVariables false
namespace Go.Proofs.Ytolcnednfbbnnaa.Am
open Go Go.RowKit

/-- It answers, and the answer is such. -/
def Wp {β : Type} (o : Option β) (Q : β → Prop) : Prop := ∃ r, o = some r ∧ Q r
namespace W
variable {α β γ : Type} {Q : β → Prop}
theorem of {F R : Option β} (h : ∀ r, F = some r → R = some r) (w : Wp F Q) : Wp R Q := by
  obtain ⟨r, e, q⟩ := w
  exact ⟨r, h r e, q⟩
theorem ret {v : β} (q : Q v) : Wp (some v) Q := ⟨v, rfl, q⟩
theorem imp {o : Option β} {Q' : β → Prop} (h : ∀ r, Q r → Q' r) (w : Wp o Q) : Wp o Q' := by
  obtain ⟨r, e, q⟩ := w
  exact ⟨r, e, h r q⟩
theorem bs {x : Option α} {v : α} (h : x = some v) {f : α → Option β} (w : Wp (f v) Q) : Wp (x.bind f) Q := by rw [h]; exact w
theorem wb {x : Option α} {P : α → Prop} (h : Wp x P) {f : α → Option β} (w : ∀ v, P v → Wp (f v) Q) : Wp (x.bind f) Q := by
  obtain ⟨v, e, p⟩ := h
  rw [e]
  exact w v p
theorem bI {k : IntKind} {n : Int} {x : Option Value} (h : x = some (.int k n)) {f : Int → Option β} (w : Wp (f n) Q) : Wp ((x.bind (getI k)).bind f) Q := by subst h; simpa [getI] using w
theorem bS {a : Option Addr} {n c : Nat} {x : Option Value} (h : x = some (.slice a n c)) {f : Option Addr × Nat → Option β} (w : Wp (f (a, n)) Q) : Wp ((x.bind getS).bind f) Q := by subst h; exact w
theorem bT {s : ByteArray} {x : Option Value} (h : x = some (.string s)) {f : ByteArray → Option β} (w : Wp (f s) Q) : Wp ((x.bind getStr).bind f) Q := by subst h; exact w
theorem bB {b : Bool} {x : Option Value} (h : x = some (.bool b)) {f : Bool → Option β} (w : Wp (f b) Q) : Wp ((x.bind getB).bind f) Q := by subst h; exact w
theorem bA {a : Addr} {x : Option Value} (h : x = some (.pointer (some a))) {f : Addr → Option β} (w : Wp (f a) Q) : Wp ((x.bind getA).bind f) Q := by subst h; exact w
theorem ifT {c : Prop} [Decidable c] {a b : Option β} (h : c) (w : Wp a Q) : Wp (if c then a else b) Q := by rw [if_pos h]; exact w
theorem ifF {c : Prop} [Decidable c] {a b : Option β} (h : ¬ c) (w : Wp b Q) : Wp (if c then a else b) Q := by rw [if_neg h]; exact w
theorem ite {c : Prop} [Decidable c] {a b : Option β} (h1 : c → Wp a Q) (h2 : ¬ c → Wp b Q) : Wp (if c then a else b) Q := by
  by_cases h : c
  · rw [if_pos h]; exact h1 h
  · rw [if_neg h]; exact h2 h
theorem gt {p : Prop} {x : Option β} (h : p) (w : Wp x Q) : Wp (gate p x) Q := by rw [gate_pos h]; exact w
theorem mp {x : Option β} {P : Sum γ β → Prop} (w : Wp x fun r => P (.inr r)) : Wp (x.map Sum.inr) P := by
  obtain ⟨r, e, q⟩ := w
  exact ⟨.inr r, by rw [e]; rfl, q⟩
theorem join {x : Option (Sum γ β)} {k : γ → Option β} (w : Wp x (Sum.elim (fun q => Wp (k q) Q) Q)) : Wp (x.bind fun j => joinK j k) Q := by
  obtain ⟨r, e, q⟩ := w
  rw [e]
  cases r with
  | inl r => exact q
  | inr r => exact ⟨r, rfl, q⟩
theorem joinP (P : γ → Prop) {x : Option (Sum γ β)} {k : γ → Option β} (w : Wp x (Sum.elim P Q)) (h : ∀ q, P q → Wp (k q) Q) : Wp (x.bind fun j => joinK j k) Q := by
  obtain ⟨r, e, q⟩ := w
  rw [e]
  cases r with
  | inl r => exact h r q
  | inr r => exact ⟨r, rfl, q⟩
theorem inl {P : γ → Prop} {v : γ} (q : P v) : Wp (some (Sum.inl v : Sum γ β)) (Sum.elim P Q) := ⟨_, rfl, q⟩
theorem inr {P : γ → Prop} {v : β} (q : Q v) : Wp (some (Sum.inr v : Sum γ β)) (Sum.elim P Q) := ⟨_, rfl, q⟩
theorem box {base t : Nat} {h : AH} {cs : List Value} {f : AH → Option β} (hb : base ≤ h.length) (w : ∀ h1, Own base t h1 (at0 h.length) cs → KB NoB h h1 → h1.length = h.length + 1 → Wp (f h1) Q) : Wp ((some (h ++ [some ⟨cs, t⟩])).bind f) Q := by
  obtain ⟨o1, k1, q1⟩ := box_own (base := base) (t := t) (h := h) (cs := cs) hb rfl
  exact w _ o1 k1 q1
theorem nw {base t : Nat} {h : AH} {zs cs : List Value} {f : AH → Option β} (hb : base ≤ h.length) (hl : cs.length = zs.length) (w : ∀ h1, Own base t h1 (at0 h.length) cs → KB NoB h h1 → h1.length = h.length + 1 → Wp (f h1) Q) :
    Wp ((some (h ++ [some ⟨zs, t⟩])).bind fun x => (Am.wr base x h.length 0 cs).bind f) Q := by
  obtain ⟨o1, k1, q1⟩ := box_own (base := base) (t := t) (h := h) (cs := cs) hb rfl
  obtain ⟨r, e, q⟩ := w _ o1 k1 q1
  exact ⟨r, Am.nw hb hl fun y ey => by rw [ey]; exact e, q⟩
theorem wr0 {base t b i : Nat} {h : AH} {vs new : List Value} {f : AH → Option β} (o : Own base t h (at0 b) vs) (hi : i + new.length ≤ vs.length) (h0 : 0 < new.length) (w : ∀ h1, Own base t h1 (at0 b) (setAt vs i new) → KB (· = b) h h1 → h1.length = h.length → Wp (f h1) Q) : Wp ((Am.wr base h b i new).bind f) Q := by
  obtain ⟨h1, e, o1, k1, l1⟩ := o.wr0 hi h0
  rw [e]
  exact w h1 o1 k1 l1
/-- A call whose answer is known. -/
theorem call {x : Option (Value × AH)} {v : Value} {P : AH → Prop} {f : Value × AH → Option β} (h : ∃ h', x = some (v, h') ∧ P h') (w : ∀ h', P h' → Wp (f (v, h')) Q) : Wp (x.bind f) Q := by
  obtain ⟨h', e, p⟩ := h
  rw [e]
  exact w h' p
end W
theorem Wp.run {x : Option (Value × AH)} {v : Value} {P : AH → Prop} (w : Wp x fun r => r.1 = v ∧ P r.2) : ∃ h', x = some (v, h') ∧ P h' := by
  obtain ⟨⟨u, h⟩, e, q, p⟩ := w
  exact ⟨h, by rw [e]; simp only at q; rw [q], p⟩
end Go.Proofs.Ytolcnednfbbnnaa.Am


set_option linter.unusedSimpArgs false
set_option linter.unusedVariables false
namespace Go.Proofs.Ytolcnednfbbnnaa.Am
open Go Go.RowKit

theorem W.q4 {base t n : Nat} {h : AH} {k nn : Int} {s : ByteArray} {a : Option Addr} {m : Nat} (o : Own base t h (at0 n) (termV k nn s a m)) {β : Type} {Q : β → Prop} {f : Int → Int → ByteArray → Option Addr × Nat → Option β} (w : Wp (f k nn s (a, m)) Q) :
    Wp (((Am.cell h n 0).bind (getI .i64)).bind fun n1 => ((Am.cell h n 1).bind (getI .i64)).bind fun n2 => ((Am.cell h n 2).bind getStr).bind fun s3 => ((Am.cell h n 3).bind getS).bind fun l4 => f n1 n2 s3 l4) Q :=
  W.bI (o.at0 (i := 0) rfl) (W.bI (o.at0 (i := 1) rfl) (W.bT (o.at0 (i := 2) rfl) (W.bS (o.at0 (i := 3) rfl) w)))
theorem W.q5 {base t n : Nat} {h : AH} {p c : Int} {a b g : Option Addr} {x y z : Nat} (o : Own base t h (at0 n) (acV p c a x b y g z)) {β : Type} {Q : β → Prop} {f : Int → Int → Option Addr × Nat → Option Addr × Nat → Option Addr × Nat → Option β} (w : Wp (f p c (a, x) (b, y) (g, z)) Q) :
    Wp (((Am.cell h n 0).bind (getI .i64)).bind fun n1 => ((Am.cell h n 1).bind (getI .i64)).bind fun n2 => ((Am.cell h n 2).bind getS).bind fun l3 => ((Am.cell h n 3).bind getS).bind fun l4 => ((Am.cell h n 4).bind getS).bind fun l5 => f n1 n2 l3 l4 l5) Q :=
  W.bI (o.at0 (i := 0) rfl) (W.bI (o.at0 (i := 1) rfl) (W.bS (o.at0 (i := 2) rfl) (W.bS (o.at0 (i := 3) rfl) (W.bS (o.at0 (i := 4) rfl) w))))
/-- A term's four cells in an answer. -/
theorem W.g4 {k nn : Int} {s : ByteArray} {a : Option Addr} {m : Nat} {β : Type} {Q : β → Prop} {f : Int → Int → ByteArray → Option Addr × Nat → Option β} (w : Wp (f k nn s (a, m)) Q) :
    Wp (((some (Value.agg (termV k nn s a m).toArray)).bind (getAgg 4)).bind fun l => ((l[0]?).bind (getI .i64)).bind fun n1 => ((l[1]?).bind (getI .i64)).bind fun n2 => ((l[2]?).bind getStr).bind fun s3 => ((l[3]?).bind getS).bind fun l4 => f n1 n2 s3 l4) Q := w
theorem same_KB {S : Nat → Prop} {h h' : AH} (k : KB S h h') {b i n : Nat} (hb : b < h.length) (hS : ¬ S b) : sameA h h' (some ⟨b, i, none⟩) n := by
  intro ad e
  injection e with e
  subst e
  have hg := k.2 b hb hS
  exact ⟨fun j _ => by unfold Am.cell; simp only [hg], by simp only [hg]⟩
theorem ne_A {b o n : Nat} (h : b ≠ n) : neA (some ⟨b, o, none⟩) n := fun ad e => by
  injection e with e
  subst e
  exact h
end Go.Proofs.Ytolcnednfbbnnaa.Am


set_option linter.unusedSimpArgs false
set_option linter.unusedVariables false
namespace Go.Proofs.Ytolcnednfbbnnaa.Am
open Go Go.RowKit

theorem atom_run {base : Nat} {h : AH} {w : ByteArray} (hb : base ≤ h.length) : ∃ h', run (Et base) 112 [.string w] h = some (.agg (termV 2 0 w none 0).toArray, h') ∧ KB NoB h h' := by
  obtain ⟨o1, k1, q1⟩ := box_own (base := base) (t := 38) (h := h) (cs := termV 0 0 ⟨#[]⟩ none 0) hb rfl
  generalize hh1 : h ++ [some (⟨termV 0 0 ⟨#[]⟩ none 0, 38⟩ : Blk)] = h1 at o1 k1 q1
  obtain ⟨h2, e2, o2, k2, l2⟩ := o1.wr0 (i := 0) (new := termV 2 0 w none 0) (by simp) (by simp)
  have hz : setAt (termV 0 0 ⟨#[]⟩ none 0) 0 (termV 2 0 w none 0) = termV 2 0 w none 0 := rfl
  rw [hz] at o2
  refine ⟨h2, r112 (lets fun h1' eh => ?_), KB.trans k1 k2 (fun _ _ h => h) (fun i hi h => by omega)⟩
  rw [hh1] at eh
  subst eh
  exact bs e2 (bI (o2.at0 (i := 0) rfl) (bI (o2.at0 (i := 1) rfl) (bT (o2.at0 (i := 2) rfl) (bS (o2.at0 (i := 3) rfl) rfl))))

end Go.Proofs.Ytolcnednfbbnnaa.Am


set_option linter.unusedSimpArgs false
set_option linter.unusedVariables false
namespace Go.Proofs.Ytolcnednfbbnnaa.Am
open Go Go.RowKit

theorem copyIntsO_run {base : Nat} {h : AH} {a : Option Addr} {xs : List Int} (hs : Sl h a (iv .i64 xs)) (hl : xs.length ≤ 1048576 * 4) (hb : base ≤ h.length) :
    ∃ a' h', run (Et base) 111 [.slice a xs.length xs.length] h = some (.slice a' xs.length xs.length, h') ∧ Own base 3 h' a' (iv .i64 xs) ∧ KB NoB h h' ∧ (∀ b, blk a' b → h.length ≤ b) := by
  have hr : rawAt h a (xs.length * 1) = some (iv .i64 xs) := by
    have := hs.raw (iv_leaf _ _)
    simpa using this
  obtain ⟨a1, h1, g1, g2, g3, g4⟩ := Own.app (x := (.inl ⟨rfl, rfl⟩ : Own base 3 h none [])) (bytes := 8) (n := 0) (m := xs.length) (sz := 1) (by simp) (by simp) hr hb (by omega) (by omega) (by simp)
  simp only [Nat.zero_add, List.nil_append] at g1 g2
  refine ⟨a1, h1, r111 (Am.bs g1 (Am.bS rfl rfl)), g2, g3.mono (fun i hi ⟨ad, e, _⟩ => by cases e), fun b hb' => ?_⟩
  rcases g4 with ⟨_, e, _⟩ | g4
  · rw [e] at hb'; obtain ⟨_, e, _⟩ := hb'; cases e
  · have := g4 b hb'; omega

theorem copyActor_run {base f : Nat} {h : AH} {p : Nat → Prop} {A : Ac} {cs : List Value} (hB : AcB f A) (x : AcR h p f A cs) (hb : base ≤ h.length) (hp : ∀ b, p b → b < h.length) :
    ∃ cs' h', run (Et base) 65 [.agg cs.toArray] h = some (.agg cs'.toArray, h') ∧ AcG base f (iS h.length h'.length) h' A cs' ∧ KB NoB h h' := by
  obtain ⟨a, b, g, rfl, hr, hx, hl, hlb⟩ := x
  obtain ⟨m1, m2, m3, m4, m5⟩ := hB
  suffices w : Wp (run (Et base) 65 [.agg (acV A.pid A.pc a A.regs.length b A.box.length g A.links.length).toArray] h) fun r => ∃ cs', r.1 = .agg cs'.toArray ∧ AcG base f (iS h.length r.2.length) r.2 A cs' ∧ KB NoB h r.2 by
    obtain ⟨⟨u, h'⟩, e, cs', rfl, q⟩ := w
    exact ⟨cs', h', e, q⟩
  refine W.of (fun r hx => r65 hx) ?_
  refine W.box hb fun h1 o1 k1 q1 => W.box (base := base) (by omega) fun h2 o2 k2 q2 => W.bS ((o1.keepN k2).at0 (i := 2) rfl) ?_
  have o1 := o1.keepN k2
  have k02 := kN k1 k2
  obtain ⟨a3, h3, e3, r3, k3⟩ := copyTerms_run (base := base) (copyTermG_run f) m1 m4 (hr.keep k02 fun _ _ h => h) (by omega) (fun b hb => by have := hp b hb; omega)
  have n3 := k3.1
  have k03 := kN k02 k3
  refine W.bs e3 (W.bS rfl (W.gt (same_keep k3 (o1.at0 (i := 3) rfl)) (W.bS ((o1.keepN k3).at0 (i := 3) rfl) ?_)))
  obtain ⟨a4, h4, e4, r4, k4⟩ := copyTerms_run (base := base) (copyTermG_run f) m2 m5 (hx.keep k03 fun _ _ h => h) (by omega) (fun b hb => by have := hp b hb; omega)
  have n4 := k4.1
  have k04 := kN k03 k4
  have o4 := (o1.keepN k3).keepN k4
  refine W.bs e4 (W.bS rfl (W.gt (same_keep k4 ((o1.keepN k3).at0 (i := 4) rfl)) (W.gt (same_keep (kN k3 k4) (o1.at0 (i := 4) rfl)) (W.bS (o4.at0 (i := 4) rfl) ?_))))
  obtain ⟨a5, h5, e5, r5, k5, f5⟩ := copyIntsO_run (base := base) (hl.keepN k04) (by omega) (by omega)
  have n5 := k5.1
  have k05 := kN k04 k5
  refine W.bs e5 (W.bS rfl (W.wr0 (o4.keepN k5) (by simp) (by simp) fun h6 o6 k6 l6 => W.wr0 o6 (by simp [setAt]) (by simp) fun h7 o7 k7 l7 => W.wr0 o7 (by simp [setAt]) (by simp) fun h8 o8 k8 l8 => ?_))
  have hset : setAt (setAt (setAt (acV A.pid A.pc a A.regs.length b A.box.length g A.links.length) 2 [.slice a3 A.regs.length A.regs.length]) 3 [.slice a4 A.box.length A.box.length]) 4 [.slice a5 A.links.length A.links.length] = acV A.pid A.pc a3 A.regs.length a4 A.box.length a5 A.links.length := rfl
  rw [hset] at o8
  have k58 : KB (· = h.length) h5 h8 := KB.trans (KB.trans k6 k7 (fun _ _ h => h) (fun _ _ h => h)) k8 (fun _ _ h => h) (fun _ _ h => h)
  refine W.bI (o8.at0 (i := 0) rfl) (W.bI (o8.at0 (i := 1) rfl) (W.bS (o8.at0 (i := 2) rfl) (W.bS (o8.at0 (i := 3) rfl) (W.bS (o8.at0 (i := 4) rfl) ?_))))
  have z8 := (((o2.keepN k3).keepN k4).keepN k5).keepB k58 fun i hi => by rw [blk_at0] at hi; omega
  refine W.wr0 z8 (by simp) (by simp) fun h9 o9 k9 l9 => ?_
  have hz : setAt (acV 0 0 none 0 none 0 none 0) 0 (acV A.pid A.pc a3 A.regs.length a4 A.box.length a5 A.links.length) = acV A.pid A.pc a3 A.regs.length a4 A.box.length a5 A.links.length := rfl
  rw [hz] at o9
  refine W.bI (o9.at0 (i := 0) rfl) (W.bI (o9.at0 (i := 1) rfl) (W.bS (o9.at0 (i := 2) rfl) (W.bS (o9.at0 (i := 3) rfl) (W.bS (o9.at0 (i := 4) rfl) (W.ret ⟨_, rfl, ?_, ?_⟩)))))
  · have n9 : h9.length = h5.length := l9.trans (l8.trans (l7.trans l6))
    refine ⟨a3, a4, a5, iS h2.length h3.length, iS h3.length h4.length, iS h4.length h5.length, rfl, ((((r3.keep (TmG.kp _ _) k4 fun _ _ h => h).keep (TmG.kp _ _) k5 fun _ _ h => h).keep (TmG.kp _ _) k58 fun b hb hk => by omega).keep (TmG.kp _ _) k9 fun b hb hk => by omega),
      (((r4.keep (TmG.kp _ _) k5 fun _ _ h => h).keep (TmG.kp _ _) k58 fun b hb hk => by omega).keep (TmG.kp _ _) k9 fun b hb hk => by omega), (r5.keepB k58 fun b hb => by have := f5 b hb; omega).keepB k9 fun b hb => by have := f5 b hb; omega, fun b hb => ⟨f5 b hb, (r5.lt hb).2⟩, fun b hb => ⟨by omega, by show b < h9.length; omega⟩, fun b hb => ⟨by omega, by show b < h9.length; omega⟩, fun b hb => ⟨by omega, by show b < h9.length; omega⟩, fun b h1 h2 => by omega, fun b h1 h2 => by omega, fun b h1 h2 => by omega⟩
  · exact kFresh (kFresh k05 k58 fun i hi => by omega) k9 fun i hi => by omega

theorem q7 {base t n : Nat} {h : AH} {kd pid pc k nn : Int} {s : ByteArray} {a : Option Addr} {m : Nat} (o : Own base t h (at0 n) (actV kd pid pc k nn s a m)) {β : Type} {Q : β → Prop} {f : Int → Int → Int → Int → Int → ByteArray → Option Addr × Nat → Option β} (w : Wp (f kd pid pc k nn s (a, m)) Q) :
    Wp (((Am.cell h n 0).bind (getI .i64)).bind fun n1 => ((Am.cell h n 1).bind (getI .i64)).bind fun n2 => ((Am.cell h n 2).bind (getI .i64)).bind fun n3 => ((Am.cell h n 3).bind (getI .i64)).bind fun n4 => ((Am.cell h n 4).bind (getI .i64)).bind fun n5 => ((Am.cell h n 5).bind getStr).bind fun s6 => ((Am.cell h n 6).bind getS).bind fun l7 => f n1 n2 n3 n4 n5 s6 l7) Q :=
  W.bI (o.at0 (i := 0) rfl) (W.bI (o.at0 (i := 1) rfl) (W.bI (o.at0 (i := 2) rfl) (W.bI (o.at0 (i := 3) rfl) (W.bI (o.at0 (i := 4) rfl) (W.bT (o.at0 (i := 5) rfl) (W.bS (o.at0 (i := 6) rfl) w))))))
theorem tmZ_G {base f : Nat} {S : Fp} {h : AH} : TmG base (f + 1) S h tmZ (termV 0 0 ⟨#[]⟩ none 0) := ⟨by decide, by decide, none, rfl, RowO.nil⟩

theorem acts_run {base f : Nat} {h : AH} {p : Nat → Prop} {R : List Tm} {v : Option Addr} {x : In} {next : Int} (hR : TsR h p (f + 1) R v) (hn : R.length = 8) (hx : InB x) (hB : ∀ t ∈ R, TmB (f + 1) t) (hb : base ≤ h.length) (hp : ∀ b, p b → b < h.length) :
    ∃ k n s a m h', run (Et base) 67 [.agg (inV x).toArray, .slice v R.length R.length, .int .i64 next] h = some (.tuple #[.agg (actV (actsF x R next).1.kind (actsF x R next).1.pid (actsF x R next).1.pc k n s a m).toArray, .bool (actsF x R next).2], h') ∧
      TmG base (f + 1) (iS h.length h'.length) h' (actsF x R next).1.t (termV k n s a m) ∧ KB NoB h h' := by
  obtain ⟨⟨a0, a7⟩, ⟨b0, b7⟩, _, _, _, _, _⟩ := hx
  suffices w : Wp (run (Et base) 67 [.agg (inV x).toArray, .slice v R.length R.length, .int .i64 next] h) fun r => ∃ k n s a m, r.1 = .tuple #[.agg (actV (actsF x R next).1.kind (actsF x R next).1.pid (actsF x R next).1.pc k n s a m).toArray, .bool (actsF x R next).2] ∧
      TmG base (f + 1) (iS h.length r.2.length) r.2 (actsF x R next).1.t (termV k n s a m) ∧ KB NoB h r.2 by
    obtain ⟨⟨u, h'⟩, e, k, n, s, a, m, rfl, q⟩ := w
    exact ⟨k, n, s, a, m, h', e, q⟩
  refine W.of (fun r hx => r67 hx) ?_
  refine W.box hb fun h1 o1 k1 q1 => W.box (base := base) (by omega) fun h2 o2 k2 q2 => W.bI ((o1.keepN k2).at0 (i := 1) rfl) (W.ifT ⟨a0, by omega⟩ ?_)
  have o1 := o1.keepN k2
  have k02 := kN k1 k2
  have ha : x.a.toNat < R.length := by omega
  have eA := rg_eq (R := R) a0 ha
  obtain ⟨ad, k, n, s, a2, m, rfl, g0, g1, g2, g3, hm⟩ := (hR.keep k02 fun _ _ h => h).getT ha
  refine W.bs rfl (W.bI g0 (W.bI g1 (W.bT g2 (W.bS g3 (W.nw (base := base) (by omega) rfl fun h3 o3 k3 q3 => ?_)))))
  have o1 := o1.keepN k3
  have o2 := o2.keepN k3
  have k03 := kN k02 k3
  have hkd : (rg R x.a).kd = k ∧ (rg R x.a).nm = n := by
    rw [eA]
    generalize R[x.a.toNat] = t at hm
    obtain ⟨k', n', s', l'⟩ := t
    obtain ⟨_, ecs, _⟩ := hm.parts
    injection ecs with e0 ecs
    injection ecs with e1 _
    injection e0 with _ e0
    injection e1 with _ e1
    exact ⟨e0.symm, e1.symm⟩
  have fin : ∀ {h4 h5 : AH} {kd pid pc k' n' : Int} {s' : ByteArray} {a' : Option Addr} {m' : Nat} {t : Tm} (k34 : KB NoB h3 h4) (o5 : Own base 54 h5 (at0 h1.length) (setAt (actV 0 0 0 0 0 ⟨#[]⟩ none 0) 0 (actV kd pid pc k' n' s' a' m'))) (k45 : KB (· = h1.length) h4 h5) (l45 : h5.length = h4.length) (ht : TmG base (f + 1) (iS h3.length h4.length) h4 t (termV k' n' s' a' m')),
      Own base 54 h5 (at0 h1.length) (actV kd pid pc k' n' s' a' m') ∧ TmG base (f + 1) (iS h.length h5.length) h5 t (termV k' n' s' a' m') ∧ KB NoB h h5 := by
    intro h4 h5 kd pid pc k' n' s' a' m' t k34 o5 k45 l45 ht
    have n34 := k34.1
    have hz : setAt (actV 0 0 0 0 0 ⟨#[]⟩ none 0) 0 (actV kd pid pc k' n' s' a' m') = actV kd pid pc k' n' s' a' m' := rfl
    rw [hz] at o5
    exact ⟨o5, TmG.mo _ _ _ _ _ _ _ (fun b hb => by constructor <;> omega) (TmG.kp _ _ _ _ _ _ _ _ k45 (fun b hb hk => by omega) ht), kFresh (kN k03 k34) k45 fun i hi => by omega⟩
  have zl : (actV 0 0 0 0 0 ⟨#[]⟩ none 0).length = 7 := rfl
  unfold actsF
  rw [hkd.1, hkd.2]
  refine W.bI (o1.at0 (i := 0) rfl) (W.ite (fun c => ?_) fun c => ?_)
  · rw [if_pos c]
    have c' := beq_iff_eq.1 c
    have hb7 : x.b ≤ 7 := b7.resolve_left (by omega)
    have hbl : x.b.toNat < R.length := by omega
    obtain ⟨ad2, kb, nb, sb, ab, mb, e2, y0, y1, y2, y3, hmb⟩ := ((hR.keep k02 fun _ _ h => h).keep k3 fun _ _ h => h).getT hbl
    injection e2 with e2
    subst e2
    refine W.bI (o3.at0 (i := 1) rfl) (W.bI (o1.at0 (i := 2) rfl) (W.ifT ⟨b0, by omega⟩ (W.bs rfl (W.bI y0 (W.bI y1 (W.bT y2 (W.bS y3 ?_)))))))
    obtain ⟨cs4, h4, e4, t4, k4⟩ := copyTermG_run (base := base) (f + 1) h3 p _ _ hmb (hB _ (List.getElem_mem hbl)) (by omega) (fun b hb => by have := hp b hb; omega)
    obtain ⟨k', n', s', a', m', rfl⟩ := t4.form
    have n4 := k4.1
    refine W.bs e4 (W.g4 (W.gt (same_keep k4 (o3.at0 (i := 1) rfl)) (W.gt (same_keep k4 (o3.at0 (i := 0) rfl)) (W.bI ((o3.keepN k4).at0 (i := 0) rfl) (W.wr0 (o2.keepN k4) (by rw [zl]; simp) (by simp) fun h5 o5 k5 l5 => ?_)))))
    obtain ⟨o5, t5, k05⟩ := fin k4 o5 k5 l5 t4
    have o35 := (o3.keepN k4).keepB k5 fun i hi => by rw [blk_at0] at hi; omega
    refine W.gt (fun ad e => ?_) (q7 o5 (W.ret ⟨_, _, _, _, _, rfl, ?_, k05⟩))
    · injection e with e
      subst e
      have hne : ¬ (h2.length = h1.length) := by omega
      have hg := k5.2 h2.length (show h2.length < _ by first | (show h2.length < h4.length; omega) | (show h2.length < h3.length; omega)) hne
      exact ⟨fun j _ => by unfold Am.cell; simp only [hg], by simp only [hg]⟩
    · rw [rg_eq b0 hbl]; exact t5
  rw [if_neg c]
  refine W.ite (fun c => ?_) fun c => ?_
  · rw [if_pos c]
    have c' := beq_iff_eq.1 c
    have hb7 : x.b ≤ 7 := b7.resolve_left (by omega)
    have hbl : x.b.toNat < R.length := by omega
    obtain ⟨ad2, kb, nb, sb, ab, mb, e2, y0, y1, y2, y3, hmb⟩ := ((hR.keep k02 fun _ _ h => h).keep k3 fun _ _ h => h).getT hbl
    injection e2 with e2
    subst e2
    refine W.bI (o1.at0 (i := 4) rfl) (W.bI (o1.at0 (i := 2) rfl) (W.ifT ⟨b0, by omega⟩ (W.bs rfl (W.bI y0 (W.bI y1 (W.bT y2 (W.bS y3 ?_)))))))
    obtain ⟨cs4, h4, e4, t4, k4⟩ := copyTermG_run (base := base) (f + 1) h3 p _ _ hmb (hB _ (List.getElem_mem hbl)) (by omega) (fun b hb => by have := hp b hb; omega)
    obtain ⟨k', n', s', a', m', rfl⟩ := t4.form
    have n4 := k4.1
    refine W.bs e4 (W.g4 (W.gt (same_keep k4 (o1.at0 (i := 4) rfl)) (W.wr0 (o2.keepN k4) (by rw [zl]; simp) (by simp) fun h5 o5 k5 l5 => ?_)))
    obtain ⟨o5, t5, k05⟩ := fin k4 o5 k5 l5 t4
    refine q7 o5 (W.ret ⟨_, _, _, _, _, rfl, ?_, k05⟩)
    rw [rg_eq b0 hbl]; exact t5
  rw [if_neg c]
  have hm3 := TmR.keep k3 (fun _ _ h => h) _ _ _ hm
  refine W.ite (fun c => ?_) fun c => ?_
  · rw [if_pos c]
    obtain ⟨cs4, h4, e4, t4, k4⟩ := copyTermG_run (base := base) (f + 1) h3 p _ _ hm3 (hB _ (List.getElem_mem ha)) (by omega) (fun b hb => by have := hp b hb; omega)
    obtain ⟨k', n', s', a', m', rfl⟩ := t4.form
    have n4 := k4.1
    refine W.q4 o3 (W.bs e4 (W.g4 (W.wr0 (o2.keepN k4) (by rw [zl]; simp) (by simp) fun h5 o5 k5 l5 => ?_)))
    obtain ⟨o5, t5, k05⟩ := fin k4 o5 k5 l5 t4
    refine q7 o5 (W.ret ⟨_, _, _, _, _, rfl, ?_, k05⟩)
    rw [eA]; exact t5
  rw [if_neg c]
  refine W.ite (fun c => ?_) fun c => ?_
  · rw [if_pos c]
    refine W.bI (o3.at0 (i := 1) rfl) (W.bI (o3.at0 (i := 0) rfl) (W.wr0 o2 (by rw [zl]; simp) (by simp) fun h5 o5 k5 l5 => ?_))
    obtain ⟨o5, t5, k05⟩ := fin (KB.refl _ _) o5 k5 l5 tmZ_G
    refine W.gt (fun ad e => ?_) (q7 o5 (W.ret ⟨_, _, _, _, _, rfl, t5, k05⟩))
    injection e with e
    subst e
    have hne : ¬ (h2.length = h1.length) := by omega
    have hg := k5.2 h2.length (show h2.length < _ by first | (show h2.length < h4.length; omega) | (show h2.length < h3.length; omega)) hne
    exact ⟨fun j _ => by unfold Am.cell; simp only [hg], by simp only [hg]⟩
  rw [if_neg c]
  refine W.ite (fun c => ?_) fun c => ?_
  · rw [if_pos c]
    obtain ⟨cs4, h4, e4, t4, k4⟩ := copyTermG_run (base := base) (f + 1) h3 p _ _ hm3 (hB _ (List.getElem_mem ha)) (by omega) (fun b hb => by have := hp b hb; omega)
    obtain ⟨k', n', s', a', m', rfl⟩ := t4.form
    have n4 := k4.1
    refine W.q4 o3 (W.bs e4 (W.g4 (W.wr0 (o2.keepN k4) (by rw [zl]; simp) (by simp) fun h5 o5 k5 l5 => ?_)))
    obtain ⟨o5, t5, k05⟩ := fin k4 o5 k5 l5 t4
    refine q7 o5 (W.ret ⟨_, _, _, _, _, rfl, ?_, k05⟩)
    rw [eA]; exact t5
  rw [if_neg c]
  refine W.wr0 o2 (by rw [zl]; simp) (by simp) fun h5 o5 k5 l5 => ?_
  obtain ⟨o5, t5, k05⟩ := fin (KB.refl _ _) o5 k5 l5 tmZ_G
  exact q7 o5 (W.ret ⟨_, _, _, _, _, rfl, t5, k05⟩)

def flt : ByteArray := ⟨#[102, 97, 117, 108, 116]⟩
theorem fault_run {base : Nat} {h : AH} (hb : base ≤ h.length) : ∃ h', run (Et base) 68 [] h = some (.agg (actV 7 0 0 2 0 flt none 0).toArray, h') ∧ KB NoB h h' := by
  refine (Wp.run (P := fun h' => KB NoB h h') ?_)
  refine W.of (fun r hx => r68 hx) ?_
  refine W.box hb fun h1 o1 k1 q1 => ?_
  obtain ⟨h2, e2, k2⟩ := atom_run (base := base) (h := h1) (w := flt) (by omega)
  refine W.bs e2 (W.g4 (W.wr0 (o1.keepN k2) (by simp) (by simp) fun h3 o3 k3 l3 => ?_))
  have hz : setAt (actV 0 0 0 0 0 ⟨#[]⟩ none 0) 0 (actV 7 0 0 2 0 flt none 0) = actV 7 0 0 2 0 flt none 0 := rfl
  rw [hz] at o3
  exact q7 o3 (W.ret ⟨rfl, kFresh (kN k1 k2) k3 fun i hi => by omega⟩)

theorem makes_run {base : Nat} {h : AH} {op : Int} : run (Et base) 69 [.int .i64 op] h = some (.bool (makesF op), h) := by
  have w : Wp (run (Et base) 69 [.int .i64 op] h) fun r => r = (.bool (makesF op), h) := by
    refine W.of (fun r hx => r69 hx) ?_
    refine W.joinP (fun q => q = ([some (.bool (!makesF op))], h)) ?_ fun q hq => ?_
    · unfold makesF
      rw [Bool.not_not]
      refine W.ite (fun c => ?_) fun c => ?_
      · rw [if_pos c]; exact W.inl (by rw [c])
      rw [if_neg c]
      refine W.ite (fun c => ?_) fun c => ?_
      · rw [if_pos c]; exact W.inl (by rw [c])
      rw [if_neg c]
      refine W.ite (fun c => ?_) fun c => ?_
      · rw [if_pos c]; exact W.inl (by rw [c])
      rw [if_neg c]
      refine W.ite (fun c => ?_) fun c => ?_
      · rw [if_pos c]; exact W.inl (by rw [c])
      rw [if_neg c]
      refine W.ite (fun c => ?_) fun c => ?_
      · rw [if_pos c]; exact W.inl (by rw [c])
      rw [if_neg c]
      refine W.ite (fun c => ?_) fun c => ?_
      · rw [if_pos c]; exact W.inl (by rw [c])
      rw [if_neg c]
      exact W.inl rfl
    · subst hq
      refine W.bB rfl (W.ite (fun c => ?_) fun c => ?_)
      · exact W.ret (by simp at c; rw [c])
      · exact W.ret (by simp at c; rw [c])
  obtain ⟨r, e, rfl⟩ := w
  exact e

theorem jumps_run {base f : Nat} {h : AH} {p : Nat → Prop} {R : List Tm} {v : Option Addr} {x : In} (hR : TsR h p f R v) (hn : R.length = 8) (hx : InB x) (hb : base ≤ h.length) :
    ∃ h', run (Et base) 73 [.agg (inV x).toArray, .slice v R.length R.length] h = some (.bool (jumpsF f x R), h') ∧ KB NoB h h' := by
  obtain ⟨⟨a0, a7⟩, ⟨b0, b7⟩, _, _, _, _, _⟩ := hx
  refine (Wp.run (P := fun h' => KB NoB h h') ?_)
  refine W.of (fun r hx => r73 hx) ?_
  refine W.box hb fun h1 o1 k1 q1 => W.bI (o1.at0 (i := 0) rfl) ?_
  have ha : x.a.toNat < R.length := by omega
  have eA := rg_eq (R := R) a0 ha
  have hR1 := hR.keep k1 fun _ _ h => h
  obtain ⟨ad, k, n, s, a2, m, rfl, g0, g1, g2, g3, hm⟩ := hR1.getT ha
  unfold jumpsF
  refine W.ite (fun c => ?_) fun c => ?_
  · rw [if_pos c]
    have c' := beq_iff_eq.1 c
    have hb7 : x.b ≤ 7 := b7.resolve_left (by omega)
    have hbl : x.b.toNat < R.length := by omega
    obtain ⟨ad2, kb, nb, sb, ab, mb, e2, y0, y1, y2, y3, hmb⟩ := hR1.getT hbl
    injection e2 with e2
    subst e2
    obtain ⟨h2, e2, k2⟩ := implSame_run (base := base) f f h1 p p _ _ _ _ hm hmb (by omega)
    refine W.bI (o1.at0 (i := 1) rfl) (W.ifT ⟨a0, by omega⟩ (W.bs rfl (W.bI g0 (W.bI g1 (W.bT g2 (W.bS g3 ?_))))))
    refine W.bI (o1.at0 (i := 2) rfl) (W.ifT ⟨b0, by omega⟩ (W.bs rfl (W.bI y0 (W.bI y1 (W.bT y2 (W.bS y3 (W.bs e2 (W.bB rfl (W.ret ⟨?_, kN k1 k2⟩)))))))))
    rw [eA, rg_eq b0 hbl]
  rw [if_neg c]
  refine W.ite (fun c => ?_) fun c => ?_
  · rw [if_pos c]
    refine W.bI (o1.at0 (i := 1) rfl) (W.ifT ⟨a0, by omega⟩ (W.bs rfl (W.bI g0 (W.bI (o1.at0 (i := 2) rfl) (W.ret ⟨?_, k1⟩)))))
    rw [eA]
    generalize R[x.a.toNat] = t at hm
    cases f with
    | zero => exact hm.elim
    | succ f =>
      obtain ⟨k', n', s', l'⟩ := t
      obtain ⟨_, ecs, _⟩ := hm.parts
      injection ecs with e0 _
      injection e0 with _ e0
      subst e0
      rfl
  rw [if_neg c]
  exact W.bI (o1.at0 (i := 0) rfl) (W.ret ⟨rfl, k1⟩)
end Go.Proofs.Ytolcnednfbbnnaa.Am


set_option linter.unusedSimpArgs false
set_option linter.unusedVariables false
namespace Go.Proofs.Ytolcnednfbbnnaa.Am
open Go Go.RowKit

theorem TmG.parts {base f : Nat} {S : Fp} {h : AH} {t : Tm} {k n : Int} {s : ByteArray} {a : Option Addr} {m : Nat} (x : TmG base (f + 1) S h t (termV k n s a m)) : ∃ l, t = .mk k n s l ∧ m = l.length ∧ s.size ≤ maxLen ∧ l.length ≤ maxLen ∧ RowO base 38 4 (TmG base f) S h l a := by
  obtain ⟨k', n', s', l⟩ := t
  obtain ⟨h1, h2, a', ecs, r⟩ := x
  injection ecs with q0 ecs
  injection ecs with q1 ecs
  injection ecs with q2 ecs
  injection ecs with q3 _
  injection q0 with _ q0; injection q1 with _ q1; injection q2 with q2; injection q3 with q3 q4 _
  subst q0; subst q1; subst q2; subst q3
  exact ⟨l, rfl, q4, h1, h2, r⟩
theorem tsR_nil {h : AH} {p : Nat → Prop} {f : Nat} {a : Option Addr} : TsR h p f [] a := ⟨[], .inl rfl, .inl rfl, rfl, fun i t hi => by simp at hi⟩
theorem tmR_mk {h : AH} {p : Nat → Prop} {f : Nat} {k n : Int} {s : ByteArray} (hs : s.size ≤ maxLen) : TmR h p (f + 1) (.mk k n s []) (termV k n s none 0) := TmR.of (l := []) tsR_nil hs (by decide)

theorem made_run {base f : Nat} {h : AH} {S : Fp} {R : List Tm} {v : Option Addr} {x : In} {pid next : Int} (hR : RowO base 38 4 (TmG base (f + 1)) S h R v) (hn : R.length = 8) (hx : InB x) (hxb : x.b ≤ 7) (hxs : x.s.size ≤ 1048576) (hB : ∀ t ∈ R, TmB (f + 1) t) (hS : ∀ b, S b → b < h.length) (hb : base ≤ h.length) :
    Wp (run (Et base) 70 [.agg (inV x).toArray, .slice v R.length R.length, .int .i64 pid, .int .i64 next] h) fun r => ∃ k n s a m b, r.1 = .tuple #[.agg (termV k n s a m).toArray, .bool b] ∧ KB NoB h r.2 ∧ match madeF x R pid next with | none => b = false | some t => b = true ∧ TmR r.2 (fun b => S b ∨ h.length ≤ b) (f + 2) t (termV k n s a m) := by
  obtain ⟨⟨a0, a7⟩, ⟨b0, _⟩, ⟨c0, c7⟩, hx4, hx6, hop0, hop1⟩ := hx
  refine W.of (fun r hx => r70 hx) ?_
  refine W.box hb fun h1 o1 k1 q1 => W.box (base := base) (by omega) fun h2 oZ k2 q2 => W.bI ((o1.keepN k2).at0 (i := 2) rfl) (W.ifT ⟨b0, by omega⟩ ?_)
  have o1 := o1.keepN k2
  have k02 := kN k1 k2
  have hbl : x.b.toNat < R.length := by omega
  have hcl : x.c.toNat < R.length := by omega
  have hR2 := hR.keep (TmG.kp _ _) k02 fun _ _ h => h
  obtain ⟨ad, kb, nb, sb, ab, mb, CB, rfl, hbk, g0, g1, g2, g3, hmB, hCB⟩ := hR2.getG hbl
  obtain ⟨ad2, kc, nc, sc, ac, mc, CC, e2, _, y0, y1, y2, y3, hmC, hCC⟩ := hR2.getG hcl
  injection e2 with e2
  subst e2
  have hbk0 : ad.block < h.length := by
    obtain ⟨vs, T, w1, w2, w3, _⟩ := hR
    exact hS _ (w3 _ ⟨ad, rfl, rfl⟩).1
  have eB := rg_eq (R := R) b0 hbl
  have eC := rg_eq (R := R) c0 hcl
  obtain ⟨lb, eB', rfl, hsb, hlb, rowB⟩ := hmB.parts
  obtain ⟨lc, eC', rfl, hsc, hlc, rowC⟩ := hmC.parts
  rw [eB'] at eB
  rw [eC'] at eC
  have hBb := hB _ (List.getElem_mem hbl)
  have hBc := hB _ (List.getElem_mem hcl)
  rw [eB'] at hBb
  rw [eC'] at hBc
  refine W.bs rfl (W.bI g0 (W.bI g1 (W.bT g2 (W.bS g3 (W.bI (o1.at0 (i := 3) rfl) (W.ifT ⟨c0, by omega⟩ (W.bs rfl (W.bI y0 (W.bI y1 (W.bT y2 (W.bS y3 ?_)))))))))))
  refine W.gt (ne_A (by omega)) (W.gt (ne_A (by omega)) (W.gt (ne_A (by omega)) (W.gt (ne_A (by omega)) (W.box (base := base) (by omega) fun h3 oB k3 q3 => ?_))))
  refine W.gt (ne_A (by omega)) (W.gt (ne_A (by omega)) (W.gt (ne_A (by omega)) (W.gt (ne_A (by omega)) (W.box (base := base) (by omega) fun h4 oC k4 q4 => ?_))))
  refine W.wr0 (oB.keepN k4) (by simp) (by simp) fun h5 oB k5 l5 => W.gt (same_KB k5 (by omega) (by omega)) (W.gt (same_KB k5 (by omega) (by omega)) (W.wr0 (oC.keepB k5 fun i hi => by rw [blk_at0] at hi; omega) (by simp) (by simp) fun h6 oC k6 l6 => ?_))
  have zB : setAt (termV 0 0 ⟨#[]⟩ none 0) 0 (termV kb nb sb ab lb.length) = termV kb nb sb ab lb.length := rfl
  have zC : setAt (termV 0 0 ⟨#[]⟩ none 0) 0 (termV kc nc sc ac lc.length) = termV kc nc sc ac lc.length := rfl
  rw [zB] at oB
  rw [zC] at oC
  have oB := oB.keepB k6 fun i hi => by rw [blk_at0] at hi; omega
  have k04 := kN (kN k02 k3) k4
  have k06 : KB NoB h h6 := kFresh (kFresh k04 k5 fun i hi => by omega) k6 fun i hi => by omega
  have k26 : KB NoB h2 h6 := kFresh (kFresh (kN k3 k4) k5 fun i hi => by omega) k6 fun i hi => by omega
  have o1 := o1.keepN k26
  have oZ := oZ.keepN k26
  have hR6 := hR.keep (TmG.kp _ _) k06 fun _ _ h => h
  have rowB := rowB.keep (TmG.kp _ _) k26 fun _ _ h => h
  have rowC := rowC.keep (TmG.kp _ _) k26 fun _ _ h => h
  have hSB : ∀ b, CB b → S b ∨ h6.length ≤ b := fun b hb => .inl (hCB b hb)
  have hSC : ∀ b, CC b → S b ∨ h6.length ≤ b := fun b hb => .inl (hCC b hb)
  have tB : TmR h6 (fun b => S b ∨ h6.length ≤ b) (f + 1) (.mk kb nb sb lb) (termV kb nb sb ab lb.length) := TmR.of (rowB.tsG.mono hSB) hsb hlb
  have n6 : h6.length = h4.length := l6.trans l5
  have upP : ∀ {y : AH} {g : Nat} {t : Tm} {cs : List Value}, g ≤ f + 2 → TmR y (fun b => S b ∨ h6.length ≤ b) g t cs → TmR y (fun b => S b ∨ h.length ≤ b) (f + 2) t cs := fun hg z => (z.mono (fun b hb => hb.imp id fun hb => by omega) _ _ _).le hg
  have nS : ∀ b, (S b ∨ h6.length ≤ b) → ¬ (b = h1.length) := fun b hb e => by
    rcases hb with hb | hb
    · have := hS b hb
      omega
    · omega
  -- the answer is written, read and given
  have fin : ∀ {h7 : AH} {k' n' : Int} {s' : ByteArray} {a' : Option Addr} {m' g : Nat} {t : Tm} {b : Bool} (k67 : KB NoB h6 h7) (hg : g ≤ f + 2) (ht : TmR h7 (fun b => S b ∨ h6.length ≤ b) g t (termV k' n' s' a' m')) (hm : madeF x R pid next = some t),
      Wp ((Am.wr base h7 h1.length 0 (termV k' n' s' a' m')).bind fun h8 => ((Am.cell h8 h1.length 0).bind (getI .i64)).bind fun n1 => ((Am.cell h8 h1.length 1).bind (getI .i64)).bind fun n2 => ((Am.cell h8 h1.length 2).bind getStr).bind fun s3 => ((Am.cell h8 h1.length 3).bind getS).bind fun l4 => some ((Value.tuple #[(.agg #[(.int .i64 n1), (.int .i64 n2), (.string s3), (.slice l4.1 l4.2 l4.2)]), (.bool true)]), h8))
        fun (r : Value × AH) => ∃ k n s a m b, r.1 = .tuple #[.agg (termV k n s a m).toArray, .bool b] ∧ KB NoB h r.2 ∧ match madeF x R pid next with | none => b = false | some t => b = true ∧ TmR r.2 (fun b => S b ∨ h.length ≤ b) (f + 2) t (termV k n s a m) := by
    intro h7 k' n' s' a' m' g t b k67 hg ht hm
    have n67 := k67.1
    refine W.wr0 (oZ.keepN k67) (by simp) (by simp) fun h8 o8 k8 l8 => ?_
    have hz : setAt (termV 0 0 ⟨#[]⟩ none 0) 0 (termV k' n' s' a' m') = termV k' n' s' a' m' := rfl
    rw [hz] at o8
    refine W.q4 o8 (W.ret ⟨_, _, _, _, _, _, rfl, kFresh (kN k06 k67) k8 fun i hi => by omega, ?_⟩)
    rw [hm]
    exact ⟨rfl, upP hg (TmR.keep k8 nS _ _ _ ht)⟩
  have bad : ∀ {b : Bool} (hm : madeF x R pid next = none),
      Wp ((Am.wr base h6 h1.length 0 (termV 0 0 ⟨#[]⟩ none 0)).bind fun h8 => ((Am.cell h8 h1.length 0).bind (getI .i64)).bind fun n1 => ((Am.cell h8 h1.length 1).bind (getI .i64)).bind fun n2 => ((Am.cell h8 h1.length 2).bind getStr).bind fun s3 => ((Am.cell h8 h1.length 3).bind getS).bind fun l4 => some ((Value.tuple #[(.agg #[(.int .i64 n1), (.int .i64 n2), (.string s3), (.slice l4.1 l4.2 l4.2)]), (.bool false)]), h8))
        fun (r : Value × AH) => ∃ k n s a m b, r.1 = .tuple #[.agg (termV k n s a m).toArray, .bool b] ∧ KB NoB h r.2 ∧ match madeF x R pid next with | none => b = false | some t => b = true ∧ TmR r.2 (fun b => S b ∨ h.length ≤ b) (f + 2) t (termV k n s a m) := by
    intro b hm
    refine W.wr0 oZ (by simp) (by simp) fun h8 o8 k8 l8 => ?_
    have hz : setAt (termV 0 0 ⟨#[]⟩ none 0) 0 (termV 0 0 ⟨#[]⟩ none 0) = termV 0 0 ⟨#[]⟩ none 0 := rfl
    rw [hz] at o8
    refine W.q4 o8 (W.ret ⟨_, _, _, _, _, _, rfl, kFresh k06 k8 fun i hi => by omega, ?_⟩)
    rw [hm]
  refine W.bI (o1.at0 (i := 0) rfl) (W.ite (fun c => ?_) fun c1 => ?_)
  · exact W.bI (o1.at0 (i := 4) rfl) (fin (b := true) (KB.refl _ _) (show 1 ≤ f + 2 by omega) (tmR_mk (by decide)) (by unfold madeF; rw [if_pos c]))
  refine W.ite (fun c => ?_) fun c2 => ?_
  · obtain ⟨h7, e7, k7⟩ := atom_run (base := base) (h := h6) (w := x.s) (by omega)
    exact W.bT (o1.at0 (i := 5) rfl) (W.bs e7 (W.g4 (fin (b := true) k7 (show 1 ≤ f + 2 by omega) (tmR_mk (by simp only [maxLen]; omega)) (by unfold madeF; rw [if_neg c1, if_pos c]))))
  refine W.ite (fun c => ?_) fun c3 => ?_
  · exact fin (b := true) (KB.refl _ _) (show 1 ≤ f + 2 by omega) (tmR_mk (by decide)) (by unfold madeF; rw [if_neg c1, if_neg c2, if_pos c])
  refine W.ite (fun c => ?_) fun c4 => ?_
  · exact W.q4 oB (fin (b := true) (KB.refl _ _) (show f + 1 ≤ f + 2 by omega) tB (by unfold madeF; rw [if_neg c1, if_neg c2, if_neg c3, if_pos c, eB]))
  refine W.ite (fun c => ?_) fun c5 => ?_
  · have h4' := hx4 (beq_iff_eq.1 c)
    have hw : IntKind.wrap .i64 (x.b + x.n) = x.b + x.n := w64i (by omega) (by omega)
    refine W.bI (o1.at0 (i := 2) rfl) (W.bI (o1.at0 (i := 2) rfl) (W.bI (o1.at0 (i := 4) rfl) ?_))
    rw [hw]
    refine W.ifT ⟨b0, by omega, by omega, hR6.tyOk _⟩ ?_
    have em : (x.b + x.n).toNat - x.b.toNat = ((R.drop x.b.toNat).take x.n.toNat).length := by simp; omega
    rw [em]
    exact fin (b := true) (KB.refl _ _) (show f + 1 + 1 ≤ f + 2 by omega) (TmR.of ((hR6.tsG.part (by omega)).mono fun b hb => .inl hb) (by decide) (by simp only [maxLen]; simp; omega)) (by unfold madeF; rw [if_neg c1, if_neg c2, if_neg c3, if_neg c4, if_pos c])
  refine W.ite (fun c => ?_) fun c6 => ?_
  · refine W.q4 oB (W.box (base := base) (by omega) fun h7 o7 k7 q7 => W.gt (ne_A (by omega)) (W.bS ((oC.keepN k7).at0 (i := 3) rfl) ?_))
    obtain ⟨vsc, er, evl, hvs⟩ := (rowC.tsG.keep k7 fun _ _ h => h).raw
    obtain ⟨hc1, hc2, _⟩ := hBc
    obtain ⟨a8, h8, e8, o8, k8, d8⟩ := Own.app o7 (n := 1) (m := lc.length) (sz := 4) (bytes := 56) (by simp) (by decide) er (by omega) (by omega) (by omega) evl
    have k68 : KB NoB h6 h8 := kFresh k7 k8 fun i hi => by rw [blk_at0] at hi; omega
    have n68 := k68.1
    have b8 : ∀ b, blk a8 b → h6.length ≤ b := fun b hb => by
      rcases d8 with ⟨_, e, _⟩ | d8
      · rw [e, blk_at0] at hb; omega
      · have := d8 b hb; omega
    refine W.bs e8 (W.bS rfl (W.gt (ne_A (by omega)) (W.gt (same_KB k8 (by omega) (fun hh => by rw [blk_at0] at hh; omega)) (W.bI ((oC.keepN k68).at0 (i := 0) rfl) (W.wr0 (oZ.keepN k68) (by simp) (by simp) fun h9 o9 k9 l9 => W.gt (same_KB k9 (show h3.length < h8.length by omega) (by omega)) ?_)))))
    have hz : setAt (termV 0 0 ⟨#[]⟩ none 0) 0 (termV 5 0 ⟨#[]⟩ a8 (1 + lc.length)) = termV 5 0 ⟨#[]⟩ a8 (1 + lc.length) := rfl
    rw [hz] at o9
    refine W.q4 o9 (W.ret ⟨_, _, _, _, _, _, rfl, kFresh (kN k06 k68) k9 fun i hi => by omega, ?_⟩)
    have em : madeF x R pid next = (if (kc == (5 : Int)) = true then some (.mk 5 0 ⟨#[]⟩ (.mk kb nb sb lb :: lc)) else none) := by
      unfold madeF
      rw [if_neg c1, if_neg c2, if_neg c3, if_neg c4, if_neg c5, if_pos c, eB, eC]
      rfl
    rw [em]
    have row8 : TsR h8 (fun b => S b ∨ h6.length ≤ b) (f + 1) (.mk kb nb sb lb :: lc) a8 := by
      refine ⟨termV kb nb sb ab lb.length ++ vsc, o8.sl, .inr fun b hb => .inr (b8 b hb), by simp [evl]; omega, fun i t hi => ?_⟩
      cases i with
      | zero =>
        simp at hi
        subst hi
        have := TmR.keep k68 (fun _ _ h => h) _ _ _ tB
        simpa using this
      | succ i =>
        simp at hi
        have hm := hvs i t hi
        have e : ((termV kb nb sb ab lb.length ++ vsc).drop ((i + 1) * 4)).take 4 = (vsc.drop (i * 4)).take 4 := by
          rw [List.drop_append, List.drop_eq_nil_of_le (by simp; omega), List.nil_append]
          congr 2
          simp
          omega
        rw [e]
        exact (TmR.keep k8 (fun b hb hk => by
          rw [blk_at0] at hk
          have := hS b (hCC b hb)
          omega) _ _ _ hm |>.mono (fun b hb => hSC b hb) _ _ _).le (by omega)
    by_cases ck : (kc == (5 : Int)) = true
    · rw [if_pos ck]
      refine ⟨ck, ?_⟩
      rw [show 1 + lc.length = (Tm.mk kb nb sb lb :: lc).length from by simp; omega]
      exact upP (show f + 1 + 1 ≤ f + 2 by omega) (TmR.of (row8.keep k9 nS) (by decide) (by simp only [maxLen]; simp; omega))
    · rw [if_neg ck]
      simpa using ck
  refine W.ite (fun c => ?_) fun c7 => ?_
  · have em : madeF x R pid next = (if (if (kb != (4 : Int)) = true then true else decide (x.n ≥ (lb.length : Int))) = true then none else some (lb.getD x.n.toNat tmZ)) := by
      unfold madeF
      rw [if_neg c1, if_neg c2, if_neg c3, if_neg c4, if_neg c5, if_neg c6, if_pos c, eB]
      rfl
    refine W.joinP (fun q => q = ([some (.pointer (at0 h.length)), some (.pointer (at0 h1.length)), some (.pointer (at0 h2.length)), some (.bool (if (kb != (4 : Int)) = true then true else decide (x.n ≥ (lb.length : Int))))], h6)) ?_ fun q hq => ?_
    · refine W.bI (oB.at0 (i := 0) rfl) (W.ite (fun d => ?_) fun d => ?_)
      · rw [if_pos d]; exact W.inl rfl
      · rw [if_neg d]; exact W.bI (o1.at0 (i := 4) rfl) (W.bS (oB.at0 (i := 3) rfl) (W.inl rfl))
    subst hq
    refine W.bA rfl (W.bA rfl (W.bA rfl (W.bB rfl (W.ite (fun d => ?_) fun d => ?_))))
    · exact bad (b := true) (by rw [em, if_pos d])
    · have d4 : ¬ (kb != (4 : Int)) = true := fun e => d (by rw [if_pos e])
      have dn : x.n < (lb.length : Int) := by
        rw [if_neg d4] at d
        simpa using d
      have hn0 := hx6 (beq_iff_eq.1 c)
      have hln : x.n.toNat < lb.length := by omega
      obtain ⟨ad3, k', n', s', a', m', C', rfl, _, w0, w1, w2, w3, hmE, hCE⟩ := rowB.getG hln
      refine W.bS (oB.at0 (i := 3) rfl) (W.bI (o1.at0 (i := 4) rfl) (W.ifT ⟨hn0, dn⟩ (W.bs rfl (W.bI w0 (W.bI w1 (W.bT w2 (W.bS w3 ?_)))))))
      exact fin (b := true) (KB.refl _ _) (show f ≤ f + 2 by omega) (hmE.tmR.mono (fun b hb => hSB b (hCE b hb)) _ _ _) (by rw [em, if_neg d]; simp [hln])
  refine W.joinP (fun q => q = ([some (.int .i64 pid), some (.int .i64 next), some (.pointer (at0 h.length)), some (.pointer (at0 h1.length)), some (.pointer (at0 h2.length)), some (.pointer (at0 h3.length)), some (.int .i64 x.op), some (.bool (if (x.op == (7 : Int)) = true then (x.op == (7 : Int)) else (x.op == (8 : Int))))], h6)) ?_ fun q hq => ?_
  · refine W.ite (fun d => ?_) fun d => ?_
    · rw [if_pos d]; exact W.inl rfl
    · rw [if_neg d]; exact W.inl rfl
  subst hq
  refine W.bI rfl (W.bI rfl (W.bA rfl (W.bA rfl (W.bA rfl (W.bA rfl (W.bI rfl (W.bB rfl (W.ite (fun d => ?_) fun d => ?_))))))))
  · refine W.joinP (fun q => q = ([some (.pointer (at0 h.length)), some (.pointer (at0 h1.length)), some (.pointer (at0 h2.length)), some (.bool (if (kb != (5 : Int)) = true then true else ((lb.length : Int) == (0 : Int))))], h6)) ?_ fun q hq => ?_
    · refine W.bI (oB.at0 (i := 0) rfl) (W.ite (fun d => ?_) fun d => ?_)
      · rw [if_pos d]; exact W.inl rfl
      · rw [if_neg d]; exact W.bS (oB.at0 (i := 3) rfl) (W.inl rfl)
    subst hq
    have em : madeF x R pid next = if (x.op == (7 : Int)) = true then (if (if (kb != (5 : Int)) = true then true else ((lb.length : Int) == (0 : Int))) = true then none else some (lb.getD 0 tmZ)) else (if (if (kb != (5 : Int)) = true then true else ((lb.length : Int) == (0 : Int))) = true then none else some (.mk 5 0 ⟨#[]⟩ (lb.drop 1))) := by
      unfold madeF
      rw [if_neg c1, if_neg c2, if_neg c3, if_neg c4, if_neg c5, if_neg c6, if_neg c7, eB]
      by_cases c8 : (x.op == (7 : Int)) = true
      · rw [if_pos c8, if_pos c8]; rfl
      · rw [if_neg c8] at d
        rw [if_neg c8, if_neg c8, if_pos d]; rfl
    refine W.bA rfl (W.bA rfl (W.bA rfl (W.bB rfl (W.ite (fun d2 => ?_) fun d2 => ?_))))
    · exact bad (b := true) (by rw [em, if_pos d2, if_pos d2]; split <;> rfl)
    · rw [if_neg d2, if_neg d2] at em
      have d5 : ¬ (kb != (5 : Int)) = true := fun e => d2 (by rw [if_pos e])
      have dl : 0 < lb.length := by
        rw [if_neg d5] at d2
        have : ¬ ((lb.length : Int) = 0) := by simpa using d2
        omega
      refine W.bI (o1.at0 (i := 0) rfl) (W.ite (fun c8 => ?_) fun c8 => ?_)
      · rw [if_pos c8] at em
        obtain ⟨ad3, k', n', s', a', m', C', rfl, _, w0, w1, w2, w3, hmE, hCE⟩ := rowB.getG dl
        refine W.bS (oB.at0 (i := 3) rfl) (W.ifT ⟨by decide, by omega⟩ (W.bs rfl (W.bI w0 (W.bI w1 (W.bT w2 (W.bS w3 ?_))))))
        exact fin (b := true) (KB.refl _ _) (show f ≤ f + 2 by omega) (hmE.tmR.mono (fun b hb => hSB b (hCE b hb)) _ _ _) (by rw [em]; simp [dl])
      · rw [if_neg c8] at em
        refine W.bS (oB.at0 (i := 3) rfl) (W.ifT ⟨by decide, by omega, by omega, rowB.tyOk _⟩ ?_)
        have elen : Int.toNat (lb.length : Int) - Int.toNat (1 : Int) = ((lb.drop 1).take (lb.length - 1)).length := by simp
        have etk : (lb.drop 1).take (lb.length - 1) = lb.drop 1 := List.take_of_length_le (by simp)
        have hp := (rowB.tsG.part (i := 1) (n := lb.length - 1) (by omega)).mono hSB
        rw [etk] at elen hp
        simp only at elen ⊢
        rw [elen]
        simp only [maxLen] at hlb
        exact fin (b := true) (KB.refl _ _) (show f + 1 ≤ f + 2 by omega) (TmR.of hp (by decide) (by simp only [maxLen]; simp; omega)) em
  have c8 : ¬ (x.op == (7 : Int)) = true := fun e => d (by rw [if_pos e]; exact e)
  rw [if_neg c8] at d
  refine W.ite (fun c => ?_) fun c10 => ?_
  · have em : madeF x R pid next = (if (kb == (1 : Int)) = true then (if (kc == (1 : Int)) = true then some (.mk 1 (IntKind.wrap .i64 (nb + nc)) ⟨#[]⟩ []) else none) else none) := by
      unfold madeF
      rw [if_neg c1, if_neg c2, if_neg c3, if_neg c4, if_neg c5, if_neg c6, if_neg c7, if_neg c8, if_neg d, if_pos c, eB, eC]
      rfl
    refine W.bI (oB.at0 (i := 1) rfl) (W.bI (oC.at0 (i := 1) rfl) (W.bI (oB.at0 (i := 0) rfl) (W.ite (fun e1 => ?_) fun e1 => ?_)))
    · refine W.bI (oC.at0 (i := 0) rfl) (W.wr0 oZ (by simp) (by simp) fun h8 o8 (k8 : KB (· = h1.length) h6 h8) (l8 : h8.length = h6.length) => W.gt (same_KB k8 (show h3.length < h6.length by omega) (show ¬ (h3.length = h1.length) by omega)) ?_)
      have hz : setAt (termV 0 0 ⟨#[]⟩ none 0) 0 (termV 1 (IntKind.wrap .i64 (nb + nc)) ⟨#[]⟩ none 0) = termV 1 (IntKind.wrap .i64 (nb + nc)) ⟨#[]⟩ none 0 := rfl
      rw [hz] at o8
      refine W.q4 o8 (W.ret ⟨_, _, _, _, _, _, rfl, kFresh k06 k8 fun i hi => by omega, ?_⟩)
      rw [em, if_pos e1]
      by_cases e3 : (kc == (1 : Int)) = true
      · rw [if_pos e3]
        exact ⟨e3, tmR_mk (by decide)⟩
      · rw [if_neg e3]
        simpa using e3
    · refine W.wr0 oZ (by simp) (by simp) fun h8 o8 (k8 : KB (· = h1.length) h6 h8) (l8 : h8.length = h6.length) => ?_
      have hz : setAt (termV 0 0 ⟨#[]⟩ none 0) 0 (termV 1 (IntKind.wrap .i64 (nb + nc)) ⟨#[]⟩ none 0) = termV 1 (IntKind.wrap .i64 (nb + nc)) ⟨#[]⟩ none 0 := rfl
      rw [hz] at o8
      refine W.q4 o8 (W.ret ⟨_, _, _, _, _, _, rfl, kFresh k06 k8 fun i hi => by omega, ?_⟩)
      rw [em, if_neg e1]
  refine W.ite (fun c => ?_) fun c11 => ?_
  · exact fin (b := true) (KB.refl _ _) (show 1 ≤ f + 2 by omega) (tmR_mk (by decide)) (by unfold madeF; rw [if_neg c1, if_neg c2, if_neg c3, if_neg c4, if_neg c5, if_neg c6, if_neg c7, if_neg c8, if_neg d, if_neg c10, if_pos c])
  · exact fin (b := true) (KB.refl _ _) (show 1 ≤ f + 2 by omega) (tmR_mk (by decide)) (by unfold madeF; rw [if_neg c1, if_neg c2, if_neg c3, if_neg c4, if_neg c5, if_neg c6, if_neg c7, if_neg c8, if_neg d, if_neg c10, if_neg c11])
end Go.Proofs.Ytolcnednfbbnnaa.Am


set_option linter.unusedSimpArgs false
set_option linter.unusedVariables false
namespace Go.Proofs.Ytolcnednfbbnnaa.Am
open Go Go.RowKit

section
variable {α : Type} {w : Nat} {P : Fp → AH → α → List Value → Prop}
theorem RowO.imp {Q : Fp → AH → α → List Value → Prop} {base t : Nat} {S : Fp} {h : AH} {l : List α} {a : Option Addr} (hPQ : ∀ S h x cs, P S h x cs → Q S h x cs) (x : RowO base t w P S h l a) : RowO base t w Q S h l a := by
  obtain ⟨vs, T, x1, x2, x3, x4, x5⟩ := x
  exact ⟨vs, T, x1, x2, x3, x4, x5.imp hPQ⟩
theorem Own.wrA {base t : Nat} {h : AH} {a : Option Addr} {vs : List Value} (x : Own base t h a vs) {i : Nat} {new : List Value} (hi : i + new.length ≤ vs.length) (h0 : 0 < new.length) :
    ∃ ad h', a = some ad ∧ Am.wr base h ad.block (ad.off + i) new = some h' ∧ Own base t h' a (setAt vs i new) ∧ KB (blk a) h h' ∧ h'.length = h.length := by
  obtain ⟨ad, h', e, h1, h2, h3, h4⟩ := x.wr hi h0
  exact ⟨ad, h', e, h1, h2, h3, h4⟩
/-- An entry is replaced by one that lies elsewhere. -/
theorem RowO.put (kp : Kp P) {base t : Nat} {S C : Fp} {h : AH} {l : List α} {a : Option Addr} (x : RowO base t w P S h l a) {i : Nat} (hi : i < l.length) {y : α} {cs : List Value} (hy : P C h y cs) (hc : cs.length = w) (hw : 0 < w) (hC : ∀ b, C b → ¬ S b) :
    ∃ ad h', a = some ad ∧ Am.wr base h ad.block (ad.off + i * w) cs = some h' ∧ RowO base t w P (fun b => S b ∨ C b) h' (l.set i y) a ∧ KB (blk a) h h' ∧ h'.length = h.length := by
  obtain ⟨vs, T, x1, x2, x3, x4, C0, c1, c2, c3⟩ := x
  have hle := mul_le' (w := w) hi
  obtain ⟨ad, h', e, w1, w2, w3, w4⟩ := x1.wrA (i := i * w) (new := cs) (by omega) (by omega)
  refine ⟨ad, h', e, w1, ⟨setAt vs (i * w) cs, fun b => T b ∨ C b, w2, by simp [setAt]; omega, fun b hb => ⟨.inl (x3 b hb).1, fun hh => ?_⟩, fun b hb => hb.imp (x4 b) id, fun q b => if q = i then C b else C0 q b, fun q b hb => ?_, fun q j b hq hb hb' => ?_, fun q z hz => ?_⟩, w3, w4⟩
  · rcases hh with hh | hh
    · exact (x3 b hb).2 hh
    · exact hC b hh (x3 b hb).1
  · simp only at hb
    split at hb
    · exact .inr hb
    · exact .inl (c1 q b hb)
  · simp only at hb hb'
    split at hb
    · split at hb'
      · omega
      · exact hC b hb (x4 b (c1 j b hb'))
    · split at hb'
      · exact hC b hb' (x4 b (c1 q b hb))
      · exact c2 q j b hq hb hb'
  · by_cases eq : q = i
    · subst eq
      rw [List.getElem?_set_self hi] at hz
      injection hz with hz
      subst hz
      have ee : (fun b => if q = q then C b else C0 q b) = C := by funext b; simp
      show P (fun b => if q = q then C b else C0 q b) h' y (chunk w q (setAt vs (q * w) cs))
      rw [ee, chunk_setAt_self hc (by omega)]
      exact kp _ _ _ _ _ _ w3 (fun b hb hk => hC b hb (x3 b hk).1) hy
    · rw [List.getElem?_set_ne (by omega)] at hz
      have ee : (fun b => if q = i then C b else C0 q b) = C0 q := by funext b; simp [eq]
      show P (fun b => if q = i then C b else C0 q b) h' z (chunk w q (setAt vs (i * w) cs))
      rw [ee, chunk_setAt_other hc (by omega) eq]
      exact kp _ _ _ _ _ _ w3 (fun b hb hk => (x3 b hk).2 (c1 q b hb)) (c3 q z hz)
/-- The first entry is taken off. -/
theorem RowO.uncons (kp : Mo P) {base t : Nat} {S : Fp} {h : AH} {x : α} {l : List α} {a : Option Addr} (r : RowO base t w P S h (x :: l) a) (hw : 0 < w) :
    ∃ C cs ad, P C h x cs ∧ a = some ad ∧ (∀ j v, cs[j]? = some v → Am.cell h ad.block (ad.off + j) = some v) ∧ (∀ b, C b → S b) ∧ (∀ b, blk a b → ¬ C b) ∧ RowO base t w P (fun b => S b ∧ ¬ C b) h l (shiftA a (1 * w)) := by
  obtain ⟨vs, T, x1, x2, x3, x4, C0, c1, c2, c3⟩ := r
  simp only [List.length_cons] at x2
  have x2 : vs.length = l.length * w + w := by rw [x2, Nat.add_one_mul]
  rcases x1 with ⟨_, e⟩ | ⟨ad, k, e1, e2, e3, e4, e5, e6⟩
  · subst e; simp at x2; omega
  have bs : ∀ b, blk (shiftA a (1 * w)) b → blk a b := fun b hb => by
    obtain ⟨ad, e, hb⟩ := hb
    cases a with
    | none => cases e
    | some a0 =>
      injection e with e
      subst e
      exact ⟨a0, rfl, hb⟩
  refine ⟨C0 0, chunk w 0 vs, ad, c3 0 x rfl, e1, fun j v hj => ?_, fun b hb => x4 b (c1 0 b hb), fun b hb hc => (x3 b hb).2 (c1 0 b hc), vs.drop w, fun b => T b ∧ ¬ C0 0 b, ?_, by simp [x2], fun b hb => ?_, fun b hb => ⟨x4 b hb.1, hb.2⟩, fun q => C0 (q + 1), fun q b hb => ⟨c1 _ b hb, fun hh => c2 _ _ b (by omega) hb hh⟩, fun q j b hq hb => c2 _ _ b (by omega) hb, fun q z hz => ?_⟩
  · have hj' : j < w := by have := (List.getElem?_eq_some_iff.1 hj).1; simp [chunk] at this; omega
    rw [chunk, List.getElem?_take_of_lt hj', List.getElem?_drop, Nat.zero_mul, Nat.zero_add] at hj
    have := e6 _ _ hj
    simp [Am.cell, e3, this]
  · subst e1
    refine .inr ⟨_, k, rfl, e2, e3, e4, by simp [x2]; omega, fun i v hi => ?_⟩
    rw [List.getElem?_drop] at hi
    have := e6 _ _ hi
    simp only [Nat.one_mul, Nat.add_assoc]
    exact this
  · have := x3 b (bs b hb)
    exact ⟨⟨this.1, fun hh => this.2 (c1 0 b hh)⟩, fun hh => this.2 hh.1⟩
  · have := c3 (q + 1) z (by simpa using hz)
    have e : chunk w q (vs.drop w) = chunk w (q + 1) vs := by
      simp only [chunk, List.drop_drop]
      congr 2
      rw [Nat.add_one_mul]; omega
    rw [e]
    exact this
end
theorem TmG.le {base : Nat} : ∀ {f f' : Nat} (hf : f ≤ f') {S : Fp} {h : AH} {t : Tm} {cs : List Value}, TmG base f S h t cs → TmG base f' S h t cs
  | 0, _, _, _, _, _, _, x => x.elim
  | f + 1, 0, hf, _, _, _, _, _ => absurd hf (Nat.not_succ_le_zero _)
  | f + 1, f' + 1, hf, S, h, .mk k n s l, cs, x => by
    obtain ⟨h1, h2, a, e, r⟩ := x
    exact ⟨h1, h2, a, e, r.imp fun _ _ _ _ => TmG.le (Nat.le_of_succ_le_succ hf)⟩
theorem AcG.le {base f f' : Nat} (hf : f ≤ f') {S : Fp} {h : AH} {A : Ac} {cs : List Value} (x : AcG base f S h A cs) : AcG base f' S h A cs := by
  obtain ⟨a, b, g, S1, S2, S3, e, h1, h2, h3⟩ := x
  exact ⟨a, b, g, S1, S2, S3, e, h1.imp fun _ _ _ _ => TmG.le hf, h2.imp fun _ _ _ _ => TmG.le hf, h3⟩
theorem AcG.setPc {base f : Nat} {S : Fp} {h : AH} {A : Ac} {cs : List Value} (x : AcG base f S h A cs) (v : Int) : AcG base f S h ⟨A.pid, v, A.regs, A.box, A.links⟩ (setAt cs 1 [.int .i64 v]) := by
  obtain ⟨a, b, g, S1, S2, S3, rfl, h1⟩ := x
  exact ⟨a, b, g, S1, S2, S3, rfl, h1⟩
/-- A register is set to a term that lies elsewhere. -/
theorem AcG.setReg {base f : Nat} {S C : Fp} {h : AH} {A : Ac} {cs tcs : List Value} (x : AcG base f S h A cs) {i : Nat} (hi : i < A.regs.length) {t : Tm} (ht : TmG base f C h t tcs) (hC : ∀ b, C b → ¬ S b) :
    ∃ ad h', cs[2]? = some (.slice (some ad) A.regs.length A.regs.length) ∧ Am.wr base h ad.block (ad.off + i * 4) tcs = some h' ∧ AcG base f (fun b => S b ∨ C b) h' ⟨A.pid, A.pc, A.regs.set i t, A.box, A.links⟩ cs ∧ KB S h h' ∧ h'.length = h.length := by
  obtain ⟨a, b, g, S1, S2, S3, rfl, r1, r2, r3, hg, s1, s2, s3, d1, d2, d3⟩ := x
  obtain ⟨k, n, s, a', m, rfl⟩ := ht.form
  have hbA : ∀ b, blk a b → S1 b := by obtain ⟨vs, T, w1, w2, w3, _⟩ := r1; exact fun b hb => (w3 b hb).1
  obtain ⟨ad, h', rfl, w1, w2, w3, w4⟩ := r1.put (TmG.kp _ _) hi ht rfl (by decide) fun b hb hs => hC b hb (s1 b hs)
  refine ⟨ad, h', rfl, w1, ⟨some ad, b, g, fun b => S1 b ∨ C b, S2, S3, by simp, w2, r2.keep (TmG.kp _ _) w3 fun b hb hk => d1 b (hbA b hk) hb, r3.keep w3 fun b hb hk => d2 b (hbA b hk) (hg b hb), hg, fun b hb => hb.imp (s1 b) id, fun b hb => .inl (s2 b hb), fun b hb => .inl (s3 b hb), fun b hb hs => ?_, fun b hb hs => ?_, d3⟩, w3.mono fun b _ hb => s1 b (hbA b hb), w4⟩
  · rcases hb with hb | hb
    · exact d1 b hb hs
    · exact hC b hb (s2 b hs)
  · rcases hb with hb | hb
    · exact d2 b hb hs
    · exact hC b hb (s3 b hs)
/-- The box's first term goes into a register. -/
theorem AcG.take {base f : Nat} {S : Fp} {h : AH} {A : Ac} {cs : List Value} (x : AcG base f S h A cs) {i : Nat} (hi : i < A.regs.length) {t : Tm} {B : List Tm} (eB : A.box = t :: B) :
    ∃ a b g k n s a' m h', cs = acV A.pid A.pc (some a) A.regs.length (some b) A.box.length g A.links.length ∧ Am.cell h b.block b.off = some (.int .i64 k) ∧ Am.cell h b.block (b.off + 1) = some (.int .i64 n) ∧ Am.cell h b.block (b.off + 1 + 1) = some (.string s) ∧ Am.cell h b.block (b.off + 1 + 1 + 1) = some (.slice a' m m) ∧
      Am.wr base h a.block (a.off + i * 4) (termV k n s a' m) = some h' ∧ (∀ q, okTy base h' (some b) 38 q = true) ∧ AcG base f S h' ⟨A.pid, A.pc, A.regs.set i t, B, A.links⟩ (acV A.pid A.pc (some a) A.regs.length (shiftA (some b) (1 * 4)) B.length g A.links.length) ∧ KB S h h' ∧ h'.length = h.length := by
  obtain ⟨a, b, g, S1, S2, S3, rfl, r1, r2, r3, hg, s1, s2, s3, d1, d2, d3⟩ := x
  have r2' := r2
  rw [eB] at r2'
  have hb1 : ∀ b, blk a b → S1 b := by obtain ⟨vs, T, w1, w2, w3, _⟩ := r1; exact fun b hb => (w3 b hb).1
  have hb2 : ∀ x, blk b x → S2 x := by obtain ⟨vs, T, w1, w2, w3, _⟩ := r2; exact fun b hb => (w3 b hb).1
  obtain ⟨C, tcs, bd, hC, rfl, cells, hCS, hCb, rt⟩ := r2'.uncons (TmG.mo _ _) (by decide)
  obtain ⟨k, n, s, a', m, rfl⟩ := hC.form
  obtain ⟨ad, h', rfl, w1, w2, w3, w4⟩ := r1.put (TmG.kp _ _) hi hC rfl (by decide) fun b hb hs => d1 b hs (hCS b hb)
  have rt' := rt.keep (TmG.kp _ _) w3 fun b hb hk => d1 b (hb1 b hk) hb.1
  refine ⟨ad, bd, g, k, n, s, a', m, h', rfl, by simpa using cells 0 _ rfl, cells 1 _ rfl, cells 2 _ rfl, cells 3 _ rfl, w1, fun q => (r2.keep (TmG.kp _ _) w3 fun b hb hk => d1 b (hb1 b hk) hb).tyOk q, ⟨some ad, shiftA (some bd) (1 * 4), g, fun b => S1 b ∨ C b, fun b => S2 b ∧ ¬ C b, S3, by simp, w2, rt', r3.keep w3 fun b hb hk => d2 b (hb1 b hk) (hg b hb), hg, fun b hb => hb.elim (s1 b) fun hb => s2 b (hCS b hb), fun b hb => s2 b hb.1, s3, fun b hb hs => ?_, fun b hb hs => ?_, fun b hb => d3 b hb.1⟩, w3.mono fun b _ hb => s1 b (hb1 b hb), w4⟩
  · rcases hb with hb | hb
    · exact d1 b hb hs.1
    · exact hs.2 hb
  · rcases hb with hb | hb
    · exact d2 b hb hs
    · exact d3 b (hCS b hb) hs
end Go.Proofs.Ytolcnednfbbnnaa.Am


set_option linter.unusedSimpArgs false
set_option linter.unusedVariables false
namespace Go.Proofs.Ytolcnednfbbnnaa.Am
open Go Go.RowKit

/-- A row of one entry. -/
theorem RowO.one {α : Type} {w base t b : Nat} {P : Fp → AH → α → List Value → Prop} {S : Fp} {h : AH} {x : α} {cs : List Value} (hx : P S h x cs) (hS : ¬ S b) (hc : cs.length = w) (o : Own base t h (at0 b) cs) : RowO base t w P (fun y => S y ∨ y = b) h [x] (at0 b) := by
  refine ⟨cs, S, o, by simp [hc], fun y hy => ?_, fun y hy => .inl hy, fun q y => q = 0 ∧ S y, fun q y hy => hy.2, fun q j y hq hy hy' => hq (hy.1.trans hy'.1.symm), fun q z hz => ?_⟩
  · rw [blk_at0] at hy
    subst hy
    exact ⟨.inr rfl, hS⟩
  · cases q with
    | zero =>
      simp at hz
      subst hz
      have ee : (fun y => (0 : Nat) = 0 ∧ S y) = S := by funext y; simp
      show P (fun y => (0 : Nat) = 0 ∧ S y) h x (chunk w 0 cs)
      rw [ee, show chunk w 0 cs = cs from by simp only [chunk, Nat.zero_mul, List.drop_zero]; exact List.take_of_length_le (by omega)]
      exact hx
    | succ q => simp at hz
/-- One entry more. -/
theorem RowO.app1 {α : Type} {w : Nat} {P : Fp → AH → α → List Value → Prop} (kp : Kp P) {base t bytes : Nat} {S C : Fp} {h : AH} {l : List α} {a : Option Addr} (x : RowO base t w P S h l a) {y : α} {cs : List Value} (hy : P C h y cs) (hc : cs.length = w) (hw : 0 < w) (hlf : cs.all leaf = true) (hC : ∀ b, C b → ¬ S b) (hCb : ∀ b, C b → b < h.length) (hSb : ∀ b, S b → b < h.length) (hb : base ≤ h.length) (h1 : (l.length + 1) * bytes ≤ 140737488355328) (h2 : l.length + 1 ≤ 9223372036854775807) :
    ∃ a' h', Am.app base (h ++ [some ⟨cs, t⟩]) t w bytes a l.length (rawAt (h ++ [some ⟨cs, t⟩]) (some ⟨h.length, 0, none⟩) (1 * w)) 1 = some (.slice a' (l.length + 1) (l.length + 1), h') ∧ RowO base t w P (fun b => S b ∨ C b ∨ (h.length ≤ b ∧ b < h'.length)) h' (l ++ [y]) a' ∧ KB (blk a) h h' ∧ h.length + 1 ≤ h'.length := by
  obtain ⟨vs, T, x1, x2, x3, x4, x5⟩ := x
  obtain ⟨a', h', e, o, k, d, n⟩ := Am.app1 (bytes := bytes) x1 x2 hc hw hlf hb h1 h2
  refine ⟨a', h', e, ⟨vs ++ cs, fun b => T b ∨ C b, o, by simp [hc, x2, Nat.add_one_mul], fun b hb' => ?_, fun b hb' => hb'.elim (fun hb' => .inl (x4 b hb')) fun hb' => .inr (.inl hb'), ?_⟩, k, n⟩
  · have e := d b hb'
    have lt := (o.lt hb').2
    subst e
    refine ⟨.inr (.inr ⟨by omega, lt⟩), fun hh => ?_⟩
    rcases hh with hh | hh
    · have := hSb _ (x4 _ hh); omega
    · have := hCb _ hh; omega
  · have c := x5.snoc (vs' := vs ++ cs) (S' := fun b => T b ∨ C b) hy (fun b hb hb' => hC b hb (x4 b hb')) (fun b hb => .inl hb) (fun b hb => .inr hb) (fun q hq => chunk_app_other (by have := mul_le' (w := w) hq; omega)) (chunk_app_self hc x2)
    refine c.keep kp k fun b hb hk => ?_
    rcases hb with hb | hb
    · exact (x3 b hk).2 hb
    · exact hC b hb (x3 b hk).1
end Go.Proofs.Ytolcnednfbbnnaa.Am


set_option linter.unusedSimpArgs false
set_option linter.unusedVariables false
namespace Go.Proofs.Ytolcnednfbbnnaa.Am
open Go Go.RowKit

theorem mkInt_run {base : Nat} {h : AH} {v : Int} (hb : base ≤ h.length) : ∃ h', run (Et base) 102 [.int .i64 v] h = some (.agg (termV 1 v ⟨#[]⟩ none 0).toArray, h') ∧ KB NoB h h' := by
  refine Wp.run (P := fun h' => KB NoB h h') ?_
  refine W.of (fun r hx => r102 hx) ?_
  exact W.nw hb rfl fun h1 o1 k1 q1 => W.q4 o1 (W.ret ⟨rfl, k1⟩)
theorem mkPid_run {base : Nat} {h : AH} {v : Int} (hb : base ≤ h.length) : ∃ h', run (Et base) 132 [.int .i64 v] h = some (.agg (termV 3 v ⟨#[]⟩ none 0).toArray, h') ∧ KB NoB h h' := by
  refine Wp.run (P := fun h' => KB NoB h h') ?_
  refine W.of (fun r hx => r132 hx) ?_
  exact W.nw hb rfl fun h1 o1 k1 q1 => W.q4 o1 (W.ret ⟨rfl, k1⟩)

theorem l9CopyTerms_loop {base f : Nat} {p : Nat → Prop} {l : List Tm} {a : Option Addr} {lo : Nat} (hl : l.length ≤ 1048576) (hB : ∀ t ∈ l, TmB f t) (hp : ∀ b, p b → b < lo) (hlo : base ≤ lo) : ∀ (d i : Nat) (h : AH) (ao : Option Addr) (S : Fp), i + d = l.length → TsR h p f l a → lo ≤ h.length → RowO base 38 4 (TmG base f) S h (l.take i) ao → (∀ b, S b → lo ≤ b ∧ b < h.length) →
    Wp (loopL (B106_0 base) [some (.slice a l.length l.length), some (.slice ao i i), some (.int .i64 (i : Int))] h) fun o => ∃ a' S', o.1 = 2 ∧ o.2.1 = [some (.slice a' l.length l.length)] ∧ RowO base 38 4 (TmG base f) S' o.2.2 l a' ∧ (∀ b, S' b → lo ≤ b ∧ b < o.2.2.length) ∧ KB (fun b => lo ≤ b) h o.2.2 := by
  intro d
  induction d with
  | zero =>
    intro i h ao S hi hs hlh r hS
    have hi' : i = l.length := by omega
    subst hi'
    rw [List.take_of_length_le (Nat.le_refl _)] at r
    refine ⟨_, loop_off (by decide) (s' := [some (.slice ao l.length l.length)]) (h' := h) (e := 2) ?_, ao, S, rfl, rfl, r, hS, KB.refl _ _⟩
    rw [B106_0_eq]
    exact Am.ifF (by simp) rfl
  | succ d ihd =>
    intro i h ao S hi hs hlh r hS
    have hlt : i < l.length := by omega
    obtain ⟨ad, k, n, s, a2, m, rfl, g0, g1, g2, g3, hm⟩ := hs.getT hlt
    obtain ⟨cs2, h2, e2, t2, k2⟩ := l1CopyG_run (base := base) f h p _ _ hm (hB _ (List.getElem_mem hlt)) (by omega) (fun b hb => by have := hp b hb; omega)
    obtain ⟨k', n', s', a', m', rfl⟩ := t2.form
    have n2 := k2.1
    have elen : (l.take i).length = i := by simp; omega
    obtain ⟨a3, h3, e3, r3, k3, n3⟩ := (r.keep (TmG.kp _ _) k2 fun _ _ h => h).app1 (TmG.kp _ _) (bytes := 56) t2 rfl (by decide) rfl (fun b hb hs => by have := hS b hs; omega) (fun b hb => hb.2) (fun b hb => by have := hS b hb; omega) (by omega) (by rw [elen]; omega) (by rw [elen]; omega)
    rw [elen] at e3
    rw [← take_snoc hlt] at r3
    have hbo : ∀ b, blk ao b → lo ≤ b := by obtain ⟨vs, T, w1, w2, w3, _⟩ := r; exact fun b hb => (hS b (w3 b hb).1).1
    have k03 : KB (fun b => lo ≤ b) h h3 := KB.trans k2 k3 (fun _ _ h => h.elim) (fun b _ hb => hbo b hb)
    obtain ⟨o, eo, a4, S4, y1, y2, y3, y4, y5⟩ := ihd (i + 1) h3 a3 _ (by omega) (hs.keep k03 fun b h1 h2 => by have := hp b h1; omega) (by omega) r3 (fun b hb => by
      rcases hb with hb | hb | hb
      · have := hS b hb; omega
      · omega
      · omega)
    refine ⟨o, loop_on ?_ eo, a4, S4, y1, y2, y3, y4, KB.trans k03 y5 (fun _ _ h => h) (fun _ _ h => h)⟩
    rw [B106_0_eq]
    refine Am.ifT (decide_eq_true (by omega)) (Am.ifT ⟨by omega, by omega⟩ (Am.bs rfl ?_))
    simp only [Int.toNat_natCast]
    refine Am.bI g0 (Am.bI g1 (Am.bT g2 (Am.bS g3 (Am.bs e2 (Am.bs (v := termV k' n' s' a' m') rfl (Am.bI rfl (Am.bI rfl (Am.bT rfl (Am.bS rfl (Am.bs rfl (Am.bs e3 (Am.bS rfl ?_))))))))))))
    rw [w64i (n := (i : Int) + 1) (by omega) (by omega)]
    rfl
theorem l9CopyTerms_run {base f : Nat} {h : AH} {p : Nat → Prop} {l : List Tm} {a : Option Addr} (hl : l.length ≤ 1048576) (hB : ∀ t ∈ l, TmB f t) (hs : TsR h p f l a) (hb : base ≤ h.length) (hp : ∀ b, p b → b < h.length) :
    ∃ a' h', run (Et base) 106 [.slice a l.length l.length] h = some (.slice a' l.length l.length, h') ∧ RowO base 38 4 (TmG base f) (iS h.length h'.length) h' l a' ∧ KB NoB h h' := by
  suffices w : Wp (run (Et base) 106 [.slice a l.length l.length] h) fun o => ∃ a', o.1 = .slice a' l.length l.length ∧ RowO base 38 4 (TmG base f) (iS h.length o.2.length) o.2 l a' ∧ KB NoB h o.2 by
    obtain ⟨⟨u, h'⟩, e, a', rfl, q⟩ := w
    exact ⟨a', h', e, q⟩
  refine W.of (fun r hx => r106 hx) ?_
  refine W.box hb fun h1 o1 k1 q1 => ?_
  obtain ⟨o, e, a', S', y1, y2, y3, y4, y5⟩ := l9CopyTerms_loop (base := base) hl hB hp hb l.length 0 h1 (at0 h.length) (· = h.length) (by omega) (hs.keep k1 fun _ _ h => h) (by omega) ⟨[], fun _ => False, o1, by simp, fun b hb => ⟨blk_at0.1 hb, fun h => h⟩, fun _ h => h.elim, Chunks.nil⟩ (fun b hb => by omega)
  obtain ⟨o1', o2, h2⟩ := o
  simp only at y1 y2
  subst y1; subst y2
  rw [show ((0 : Nat) : Int) = 0 from rfl] at e
  refine W.bs e (W.ifT rfl (W.bS rfl (W.ret ⟨a', rfl, y3.mono fun b hb => y4 b hb, KB.trans k1 y5 (fun _ _ h => h) (fun i hi hs => by omega)⟩)))

theorem l9Copy_run {base f : Nat} {h : AH} {p : Nat → Prop} {A : Ac} {cs : List Value} (hB : AcB f A) (x : AcR h p f A cs) (hb : base ≤ h.length) (hp : ∀ b, p b → b < h.length) :
    ∃ cs' h', run (Et base) 62 [.agg cs.toArray] h = some (.agg cs'.toArray, h') ∧ AcG base f (iS h.length h'.length) h' A cs' ∧ KB NoB h h' := by
  obtain ⟨a, b, g, rfl, hr, hx, hl, hlb⟩ := x
  obtain ⟨m1, m2, m3, m4, m5⟩ := hB
  suffices w : Wp (run (Et base) 62 [.agg (acV A.pid A.pc a A.regs.length b A.box.length g A.links.length).toArray] h) fun r => ∃ cs', r.1 = .agg cs'.toArray ∧ AcG base f (iS h.length r.2.length) r.2 A cs' ∧ KB NoB h r.2 by
    obtain ⟨⟨u, h'⟩, e, cs', rfl, q⟩ := w
    exact ⟨cs', h', e, q⟩
  refine W.of (fun r hx => r62 hx) ?_
  refine W.box hb fun h1 o1 k1 q1 => W.box (base := base) (by omega) fun h2 o2 k2 q2 => W.bI ((o1.keepN k2).at0 (i := 0) rfl) (W.bI ((o1.keepN k2).at0 (i := 1) rfl) (W.bS ((o1.keepN k2).at0 (i := 2) rfl) ?_))
  have o1 := o1.keepN k2
  have k02 := kN k1 k2
  obtain ⟨a3, h3, e3, r3, k3⟩ := l9CopyTerms_run (base := base) m1 m4 (hr.keep k02 fun _ _ h => h) (by omega) (fun b hb => by have := hp b hb; omega)
  have n3 := k3.1
  have k03 := kN k02 k3
  have sm : ∀ {x y : AH} {i n : Nat} (k : KB NoB x y) (hx : h.length < x.length), sameA x y (some ⟨h.length, i, none⟩) n := fun k hx => same_KB k hx (fun h => h)
  refine W.bs e3 (W.bS rfl (W.gt (sm k3 (by omega)) (W.gt (sm k3 (by omega)) (W.gt (sm k3 (by omega)) (W.bS ((o1.keepN k3).at0 (i := 3) rfl) ?_)))))
  obtain ⟨a4, h4, e4, r4, k4⟩ := l9CopyTerms_run (base := base) m2 m5 (hx.keep k03 fun _ _ h => h) (by omega) (fun b hb => by have := hp b hb; omega)
  have n4 := k4.1
  have k04 := kN k03 k4
  have nn : ∀ {i : Nat}, neA (some ⟨h.length, i, none⟩) h4.length := ne_A (by omega)
  refine W.bs e4 (W.bS rfl (W.gt (sm k4 (show h.length < h3.length by omega)) (W.gt (sm k4 (show h.length < h3.length by omega)) (W.gt nn (W.gt nn (W.gt nn (W.gt nn (W.box (base := base) (h := h4) (by omega) fun h5 oE k5 q5' => ?_))))))))
  have k05 := kN k04 k5
  have o5 := ((o1.keepN k3).keepN k4).keepN k5
  refine W.gt nn (W.gt (sm (kN k4 k5) (show h.length < h3.length by omega)) (W.gt (sm (kN (kN k3 k4) k5) (show h.length < h2.length by omega)) (W.bS (o5.at0 (i := 4) rfl) ?_)))
  have hraw : rawAt h5 g (A.links.length * 1) = some (iv .i64 A.links) := by
    have := (hl.keepN k05).raw (iv_leaf _ _)
    simpa using this
  obtain ⟨a6, h6, e6, r6, k6, d6⟩ := Own.app (x := oE) (bytes := 8) (n := 0) (m := A.links.length) (sz := 1) (by simp) (by simp) hraw (by omega) (by omega) (by omega) (by simp)
  simp only [Nat.zero_add, List.nil_append] at e6 r6
  have n6 := k6.1
  have b6 : ∀ b, blk a6 b → h4.length ≤ b := fun b hb => by
    rcases d6 with ⟨_, e, _⟩ | d6
    · rw [e, blk_at0] at hb; omega
    · have := d6 b hb; omega
  have k6' : KB (· = h4.length) h5 h6 := k6.mono fun i _ hi => blk_at0.1 hi
  have o6 := o5.keepB k6' fun i hi => by rw [blk_at0] at hi; omega
  have z6 := (((o2.keepN k3).keepN k4).keepN k5).keepB k6' fun i hi => by rw [blk_at0] at hi; omega
  have hne : ¬ (h.length = h4.length) := by omega
  refine W.bs e6 (W.bS rfl (W.gt (same_KB k6' (show h.length < h5.length by omega) hne) (W.gt (same_KB k6' (show h.length < h5.length by omega) hne) (W.wr0 z6 (by simp) (by simp) fun h7 o7 k7 l7 => ?_))))
  have hz : setAt (acV 0 0 none 0 none 0 none 0) 0 (acV A.pid A.pc a3 A.regs.length a4 A.box.length a6 A.links.length) = acV A.pid A.pc a3 A.regs.length a4 A.box.length a6 A.links.length := rfl
  rw [hz] at o7
  have l7 : h7.length = h6.length := l7
  have k7 : KB (· = h1.length) h6 h7 := k7
  have k57 : KB (fun b => b = h4.length ∨ b = h1.length) h5 h7 := KB.trans k6' k7 (fun _ _ h => .inl h) (fun _ _ h => .inr h)
  refine W.q5 o7 (W.ret ⟨_, rfl, ?_, ?_⟩)
  · refine ⟨a3, a4, a6, iS h2.length h3.length, iS h3.length h4.length, iS h4.length h6.length, rfl, ((r3.keep (TmG.kp _ _) k4 fun _ _ h => h).keep (TmG.kp _ _) k5 fun _ _ h => h).keep (TmG.kp _ _) k57 fun b hb hk => by omega,
      (r4.keep (TmG.kp _ _) k5 fun _ _ h => h).keep (TmG.kp _ _) k57 fun b hb hk => by omega, r6.keepB k7 fun b hb => by have := b6 b hb; omega, fun b hb => ⟨b6 b hb, (r6.lt hb).2⟩, fun b hb => ⟨by omega, by show b < h7.length; omega⟩, fun b hb => ⟨by omega, by show b < h7.length; omega⟩, fun b hb => ⟨by omega, by show b < h7.length; omega⟩, fun b h1 h2 => by omega, fun b h1 h2 => by omega, fun b h1 h2 => by omega⟩
  · exact kFresh k05 k57 fun i hi => by omega

/-! are two terms the same -/
theorem sameS_loop {base f f2 b0 b1 : Nat} (ih : SameR base f 107) {p p2 : Nat → Prop} {l m : List Tm} {a a2 : Option Addr} {k n k2 n2 : Int} {s s2 : ByteArray} (hl : l.length ≤ 9223372036854775807) (hlm : l.length = m.length) : ∀ (d i : Nat) (h : AH), i + d = l.length → TsR h p f l a → TsR h p2 f2 m a2 → Own base 38 h (at0 b0) (termV k n s a l.length) → Own base 38 h (at0 b1) (termV k2 n2 s2 a2 m.length) → base ≤ h.length →
    ∃ h', loopL (B107_0 base) [some (.pointer (at0 b0)), some (.pointer (at0 b1)), some (.int .i64 (i : Int))] h = some (if sameLs (sameB f) (l.drop i) (m.drop i) = true then (2, [], h') else (1, [some (.bool false)], h')) ∧ KB NoB h h' := by
  intro d
  induction d with
  | zero =>
    intro i h hi hs hs2 o o2 hb
    refine ⟨h, ?_, KB.refl _ _⟩
    rw [List.drop_eq_nil_of_le (by omega)]
    rw [show sameLs (sameB f) [] (m.drop i) = true from rfl, if_pos rfl]
    refine loop_off (by decide) ?_
    rw [B107_0_eq]
    exact Am.bS (o.at0 (i := 3) rfl) (Am.ifF (by simp; omega) rfl)
  | succ d ihd =>
    intro i h hi hs hs2 o o2 hb
    have hlt : i < l.length := by omega
    have hlt2 : i < m.length := by omega
    obtain ⟨ad, c0, c1, c2, c3, c4, rfl, g0, g1, g2, g3, hm⟩ := hs.getT hlt
    obtain ⟨ad2, d0, d1, d2, d3, d4, rfl, y0, y1, y2, y3, hm2⟩ := hs2.getT hlt2
    obtain ⟨h1, e1, k1⟩ := ih f2 h p p2 l[i] m[i] _ _ hm hm2 hb
    rw [List.drop_eq_getElem_cons hlt, List.drop_eq_getElem_cons hlt2, sameLs]
    have head : ∀ {r : Option (Nat × Slots × AH)}, (if (!sameB f l[i] m[i]) = true then some (1, [some (.bool false)], h1) else some (0, [some (.pointer (at0 b0)), some (.pointer (at0 b1)), some (.int .i64 (IntKind.wrap .i64 ((i : Int) + (1 : Int))))], h1)) = r → B107_0 base [some (.pointer (at0 b0)), some (.pointer (at0 b1)), some (.int .i64 (i : Int))] h = r := by
      intro r hr
      rw [B107_0_eq]
      refine Am.bS (o.at0 (i := 3) rfl) (Am.ifT (decide_eq_true (by show (i : Int) < (l.length : Int); omega)) (Am.bS (o.at0 (i := 3) rfl) (Am.ifT ⟨by omega, by show (i : Int) < (l.length : Int); omega⟩ (Am.bs rfl ?_))))
      simp only [Int.toNat_natCast]
      refine Am.bI g0 (Am.bI g1 (Am.bT g2 (Am.bS g3 (Am.bS (o2.at0 (i := 3) rfl) (Am.ifT ⟨by omega, by show (i : Int) < (m.length : Int); omega⟩ (Am.bs rfl ?_))))))
      exact Am.bI y0 (Am.bI y1 (Am.bT y2 (Am.bS y3 (Am.bs e1 (Am.bB rfl hr)))))
    cases c : sameB f l[i] m[i] with
    | false =>
      refine ⟨h1, ?_, k1⟩
      rw [Bool.false_and, if_neg (by decide)]
      exact loop_off (by decide) (head (by rw [c]; exact Am.ifT rfl rfl))
    | true =>
      rw [Bool.true_and]
      obtain ⟨h2, m1, m2⟩ := ihd (i + 1) h1 (by omega) (hs.keep k1 fun _ _ h => h) (hs2.keep k1 fun _ _ h => h) (o.keepN k1) (o2.keepN k1) (by have := k1.1; omega)
      refine ⟨h2, loop_on (head ?_) m1, kN k1 m2⟩
      rw [c, w64i (n := (i : Int) + 1) (by omega) (by omega)]
      exact Am.ifF (by decide) rfl
end Go.Proofs.Ytolcnednfbbnnaa.Am


set_option linter.unusedSimpArgs false
set_option linter.unusedVariables false
namespace Go.Proofs.Ytolcnednfbbnnaa.Am
open Go Go.RowKit

abbrev Ds := List (Nat × Nat × List Value)
/-- Something that is known of the heap, and the blocks that it speaks of. -/
structure Rs where
  S : Fp
  mu : Bool
  A : AH → Prop
def Rs.Ok (r : Rs) : Prop := ∀ (U : Fp) (h h' : AH), KB U h h' → (∀ b, r.S b → ¬ U b) → r.A h → r.A h'
def Rs.dj (r s : Rs) : Prop := (r.mu || s.mu) = true → ∀ b, r.S b → ¬ s.S b
theorem Rs.dj.symm {r s : Rs} (x : r.dj s) : s.dj r := fun e b h1 h2 => x (by rw [Bool.or_comm]; exact e) b h2 h1
/-- The walk's state: since h0 only W's blocks and new ones were written; the own blocks D hold what is told; all of R holds. -/
structure Hs (base : Nat) (W : Fp) (h0 h : AH) (D : Ds) (R : List Rs) : Prop where
  ge : base ≤ h.length
  kb : KB W h0 h
  own : ∀ x ∈ D, Own base x.2.1 h (at0 x.1) x.2.2 ∧ (W x.1 ∨ h0.length ≤ x.1)
  nd : (D.map (·.1)).Nodup
  res : ∀ r ∈ R, r.A h ∧ r.Ok ∧ (∀ b, r.S b → b < h.length) ∧ (r.mu = true → ∀ b, r.S b → W b ∨ h0.length ≤ b) ∧ ∀ x ∈ D, ¬ r.S x.1
  dj : R.Pairwise Rs.dj
/-- One entry is another. -/
inductive Upd {α : Type} : List α → α → α → List α → Prop
  | here {x y : α} {l : List α} : Upd (x :: l) x y (y :: l)
  | there {x y z : α} {l l' : List α} : Upd l x y l' → Upd (z :: l) x y (z :: l')
theorem Upd.mem {α : Type} {l l' : List α} {x y : α} (u : Upd l x y l') : x ∈ l := by
  induction u with
  | here => exact .head _
  | there _ ih => exact .tail _ ih
theorem Upd.of {α : Type} {l l' : List α} {x y : α} (u : Upd l x y l') : ∀ z ∈ l', z = y ∨ z ∈ l := by
  induction u with
  | here => exact fun z hz => (List.mem_cons.1 hz).imp id fun h => .tail _ h
  | there _ ih =>
    intro z hz
    rcases List.mem_cons.1 hz with rfl | hz
    · exact .inr (.head _)
    · exact (ih z hz).imp id fun h => .tail _ h
theorem Upd.fst {l l' : Ds} {x y : Nat × Nat × List Value} (u : Upd l x y l') (e : x.1 = y.1) : l'.map (·.1) = l.map (·.1) := by
  induction u with
  | here => simp [e]
  | there _ ih => simp [ih e]
/-- The other entries are at other blocks. -/
theorem Upd.others {l l' : Ds} {x y : Nat × Nat × List Value} (u : Upd l x y l') (e : x.1 = y.1) (nd : (l.map (·.1)).Nodup) : ∀ z ∈ l', z = y ∨ (z ∈ l ∧ z.1 ≠ x.1) := by
  induction u with
  | @here x y l =>
    intro z hz
    rcases List.mem_cons.1 hz with rfl | hz
    · exact .inl rfl
    · refine .inr ⟨.tail _ hz, fun h => ?_⟩
      have := (List.nodup_cons.1 nd).1
      exact this (List.mem_map.2 ⟨z, hz, h⟩)
  | @there x y w l l' u ih =>
    have nd' := List.nodup_cons.1 nd
    intro z hz
    rcases List.mem_cons.1 hz with rfl | hz
    · refine .inr ⟨.head _, fun h => nd'.1 (List.mem_map.2 ⟨_, u.mem, h.symm⟩)⟩
    · exact (ih e nd'.2 z hz).imp id fun h => ⟨.tail _ h.1, h.2⟩
theorem Upd.pair {l l' : List Rs} {x y : Rs} (u : Upd l x y l') (p : l.Pairwise Rs.dj) (hy : ∀ z ∈ l, z.dj x → z.dj y) : l'.Pairwise Rs.dj := by
  induction u with
  | @here x y l =>
    rw [List.pairwise_cons] at p ⊢
    exact ⟨fun z hz => (hy z (.tail _ hz) (p.1 z hz).symm).symm, p.2⟩
  | @there x y w l l' u ih =>
    rw [List.pairwise_cons] at p ⊢
    refine ⟨fun z hz => ?_, ih p.2 fun z hz => hy z (.tail _ hz)⟩
    rcases u.of z hz with rfl | hz
    · exact hy w (.head _) (p.1 _ u.mem)
    · exact p.1 z hz

theorem Upd.at {α : Type} {l : List α} {x : α} : ∀ {i : Nat}, l[i]? = some x → ∀ {y : α}, Upd l x y (l.set i y) := by
  induction l with
  | nil => intro i e; simp at e
  | cons z l ih =>
    intro i e y
    cases i with
    | zero => simp at e; subst e; exact .here
    | succ i => exact .there (ih (by simpa using e))
/-- One entry is gone. -/
inductive Del {α : Type} : List α → α → List α → Prop
  | here {x : α} {l : List α} : Del (x :: l) x l
  | there {x z : α} {l l' : List α} : Del l x l' → Del (z :: l) x (z :: l')
theorem Del.at {α : Type} {l : List α} {x : α} : ∀ {i : Nat}, l[i]? = some x → Del l x (l.eraseIdx i) := by
  induction l with
  | nil => intro i e; simp at e
  | cons z l ih =>
    intro i e
    cases i with
    | zero => simp at e; subst e; exact .here
    | succ i => exact .there (ih (by simpa using e))
theorem Del.mem {α : Type} {l l' : List α} {x : α} (u : Del l x l') : x ∈ l := by
  induction u with
  | here => exact .head _
  | there _ ih => exact .tail _ ih
theorem Del.of {α : Type} {l l' : List α} {x : α} (u : Del l x l') : ∀ z ∈ l', z ∈ l := by
  induction u with
  | here => exact fun z hz => .tail _ hz
  | there _ ih =>
    intro z hz
    rcases List.mem_cons.1 hz with rfl | hz
    · exact .head _
    · exact .tail _ (ih z hz)
theorem Del.others {l l' : Ds} {x : Nat × Nat × List Value} (u : Del l x l') (nd : (l.map (·.1)).Nodup) : (l'.map (·.1)).Nodup ∧ ∀ z ∈ l', z.1 ≠ x.1 := by
  induction u with
  | @here x l =>
    have nd := List.nodup_cons.1 nd
    exact ⟨nd.2, fun z hz e => nd.1 (List.mem_map.2 ⟨z, hz, e⟩)⟩
  | @there x z l l' u ih =>
    have nd := List.nodup_cons.1 nd
    obtain ⟨h1, h2⟩ := ih nd.2
    refine ⟨List.nodup_cons.2 ⟨fun hm => ?_, h1⟩, fun y hy => ?_⟩
    · obtain ⟨y, hy, e⟩ := List.mem_map.1 hm
      exact nd.1 (List.mem_map.2 ⟨y, u.of y hy, e⟩)
    · rcases List.mem_cons.1 hy with rfl | hy
      · exact fun e => nd.1 (List.mem_map.2 ⟨_, u.mem, e.symm⟩)
      · exact h2 y hy
theorem Upd.key {l l' : List Rs} {r r' : Rs} (u : Upd l r r' l') : l.Pairwise Rs.dj → ∀ s ∈ l', s = r' ∨ (s ∈ l ∧ s.dj r) := by
  induction u with
  | @here x y l =>
    intro p s hs
    rw [List.pairwise_cons] at p
    rcases List.mem_cons.1 hs with rfl | hs
    · exact .inl rfl
    · exact .inr ⟨.tail _ hs, (p.1 s hs).symm⟩
  | @there x y w l l' u ih =>
    intro p s hs
    rw [List.pairwise_cons] at p
    rcases List.mem_cons.1 hs with rfl | hs
    · exact .inr ⟨.head _, p.1 _ u.mem⟩
    · exact (ih p.2 s hs).imp id fun h => ⟨.tail _ h.1, h.2⟩
theorem Upd.off {l l' : List Rs} {s e : Rs} (u : Upd l s e l') (he : ∀ b, ¬ e.S b) (ms : s.mu = true) : l.Pairwise Rs.dj → ∀ z ∈ l', ∀ b, z.S b → ¬ s.S b := by
  induction u with
  | @here x y l =>
    intro p z hz b h1 h2
    rw [List.pairwise_cons] at p
    rcases List.mem_cons.1 hz with rfl | hz
    · exact he b h1
    · exact p.1 z hz (by rw [ms]; simp) b h2 h1
  | @there x y w l l' u ih =>
    intro p z hz b h1 h2
    rw [List.pairwise_cons] at p
    rcases List.mem_cons.1 hz with rfl | hz
    · exact p.1 _ u.mem (by rw [ms]; simp) b h1 h2
    · exact ih he ms p.2 z hz b h1 h2
theorem Upd.two {α : Type} {l l' : List α} {x y : α} (z : α) (u : Upd l x y l') : ∃ m, Upd l x z m ∧ Upd m z y l' := by
  induction u with
  | here => exact ⟨_, .here, .here⟩
  | there u ih =>
    obtain ⟨m, h1, h2⟩ := ih
    exact ⟨_, .there h1, .there h2⟩

namespace Hs
variable {base : Nat} {W : Fp} {h0 h : AH} {D : Ds} {R : List Rs}
theorem start (hb : base ≤ h.length) : Hs base NoB h h [] [] := ⟨hb, KB.refl _ _, fun x hx => (nomatch hx), by simp, fun r hr => (nomatch hr), .nil⟩
/-- Something that is there before. -/
theorem inp (d : Hs base W h0 h D R) (S : Fp) (A : AH → Prop) (hA : A h) (ok : ∀ (U : Fp) (h h' : AH), KB U h h' → (∀ b, S b → ¬ U b) → A h → A h') (lt : ∀ b, S b → b < h.length) (hD : ∀ x ∈ D, ¬ S x.1) (hR : R.all (fun r => !r.mu) = true) : Hs base W h0 h D (R ++ [⟨S, false, A⟩]) := by
  refine ⟨d.ge, d.kb, d.own, d.nd, fun r hr => ?_, ?_⟩
  · rcases List.mem_append.1 hr with hr | hr
    · exact d.res r hr
    · rw [List.mem_singleton] at hr
      subst hr
      exact ⟨hA, ok, lt, fun h => (nomatch h), hD⟩
  · rw [List.pairwise_append]
    refine ⟨d.dj, by simp, fun r hr s hs => ?_⟩
    rw [List.mem_singleton] at hs
    subst hs
    intro e
    have := List.all_eq_true.1 hR r hr
    simp only [Bool.or_false] at e
    rw [e] at this
    cases this
/-- What does not speak of blocks. -/
theorem keep {U : Fp} {h' : AH} (d : Hs base W h0 h D R) (k : KB U h h') (h1 : ∀ b, U b → b < h.length → W b ∨ h0.length ≤ b) (h2 : ∀ x ∈ D, ¬ U x.1) (h3 : ∀ r ∈ R, ∀ b, r.S b → ¬ U b) : Hs base W h0 h' D R := by
  refine ⟨Nat.le_trans d.ge k.1, KB.trans d.kb k (fun _ _ h => h) (fun i hi hu => ?_), fun x hx => ⟨(d.own x hx).1.keep k fun b hb hu => h2 x hx ((blk_at0.1 hb) ▸ hu), (d.own x hx).2⟩, d.nd, fun r hr => ?_, d.dj⟩
  · rcases h1 i hu (Nat.lt_of_lt_of_le hi d.kb.1) with h | h
    · exact h
    · exact absurd hi (by omega)
  · obtain ⟨r1, r2, r3, r4⟩ := d.res r hr
    exact ⟨r2 U h h' k (h3 r hr) r1, r2, fun b hb => Nat.lt_of_lt_of_le (r3 b hb) k.1, r4⟩
theorem kN {h' : AH} (d : Hs base W h0 h D R) (k : KB NoB h h') : Hs base W h0 h' D R := d.keep k (fun _ h => h.elim) (fun _ _ h => h) (fun _ _ _ _ h => h)
/-- A call's new blocks, and what is known of them. -/
theorem call {h' : AH} (d : Hs base W h0 h D R) (k : KB NoB h h') (S : Fp) (A : AH → Prop) (hA : A h') (ok : ∀ (U : Fp) (h h' : AH), KB U h h' → (∀ b, S b → ¬ U b) → A h → A h') (hS : ∀ b, S b → h.length ≤ b ∧ b < h'.length) : Hs base W h0 h' D (R ++ [⟨S, true, A⟩]) := by
  have d' := d.kN k
  refine ⟨d'.ge, d'.kb, d'.own, d'.nd, fun r hr => ?_, ?_⟩
  · rcases List.mem_append.1 hr with hr | hr
    · exact d'.res r hr
    · rw [List.mem_singleton] at hr
      subst hr
      refine ⟨hA, ok, fun b hb => (hS b hb).2, fun _ b hb => .inr ?_, fun x hx hS' => ?_⟩
      · have := (hS b hb).1
        have := d.kb.1
        omega
      · have := ((d.own x hx).1.lt (blk_at0.2 rfl)).2
        have := (hS _ hS').1
        omega
  · rw [List.pairwise_append]
    refine ⟨d'.dj, by simp, fun r hr s hs e b h1 h2 => ?_⟩
    rw [List.mem_singleton] at hs
    subst hs
    have := (d.res r hr).2.2.1 b h1
    have := (hS b h2).1
    omega
/-- Two things more, each in new blocks of its own. -/
theorem call2 {h' : AH} (d : Hs base W h0 h D R) (k : KB NoB h h') (S T : Fp) (A B : AH → Prop) (hA : A h') (hB : B h') (okA : ∀ (U : Fp) (h h' : AH), KB U h h' → (∀ b, S b → ¬ U b) → A h → A h') (okB : ∀ (U : Fp) (h h' : AH), KB U h h' → (∀ b, T b → ¬ U b) → B h → B h') (hS : ∀ b, S b → h.length ≤ b ∧ b < h'.length) (hT : ∀ b, T b → h.length ≤ b ∧ b < h'.length) (hd : ∀ b, S b → ¬ T b) : Hs base W h0 h' D (R ++ [⟨S, true, A⟩] ++ [⟨T, true, B⟩]) := by
  have d1 := d.call k S A hA okA hS
  have d2 := d.call k T B hB okB hT
  refine ⟨d1.ge, d1.kb, d1.own, d1.nd, fun r hr => ?_, ?_⟩
  · rcases List.mem_append.1 hr with hr | hr
    · exact d1.res r hr
    · exact d2.res r (List.mem_append_right _ hr)
  · rw [List.pairwise_append]
    refine ⟨d1.dj, by simp, fun r hr s hs => ?_⟩
    rcases List.mem_append.1 hr with hr | hr
    · exact (List.pairwise_append.1 d2.dj).2.2 r hr s hs
    · rw [List.mem_singleton] at hr hs
      subst hr; subst hs
      exact fun _ => hd
theorem own_kp {base t b : Nat} {vs : List Value} : ∀ (U : Fp) (h h' : AH), KB U h h' → (∀ i, i = b → ¬ U i) → Own base t h (at0 b) vs → Own base t h' (at0 b) vs := fun U h h' k hs x => x.keep k fun i hi => hs i (blk_at0.1 hi)
/-- One of what is known. -/
theorem rs (d : Hs base W h0 h D R) {i : Nat} {r : Rs} (e : R[i]? = some r) : r.A h := (d.res r (List.mem_of_getElem? e)).1
theorem rlt (d : Hs base W h0 h D R) {i : Nat} {r : Rs} (e : R[i]? = some r) : ∀ b, r.S b → b < h.length := (d.res r (List.mem_of_getElem? e)).2.2.1
theorem rfr (d : Hs base W h0 h D R) {i : Nat} {r : Rs} (e : R[i]? = some r) (m : r.mu = true) : ∀ b, r.S b → W b ∨ h0.length ≤ b := (d.res r (List.mem_of_getElem? e)).2.2.2.1 m
theorem getI {b t o : Nat} {cs : List Value} {v : Value} (d : Hs base W h0 h D R) (m : (b, t, cs) ∈ D) (e : cs[o]? = some v) : Am.cell h b o = some v := (d.own _ m).1.at0 e
theorem lt {b t : Nat} {cs : List Value} (d : Hs base W h0 h D R) (m : (b, t, cs) ∈ D) : b < h.length := ((d.own _ m).1.lt (blk_at0.2 rfl)).2
theorem ol {b t : Nat} {cs : List Value} (d : Hs base W h0 h D R) (m : (b, t, cs) ∈ D) : Own base t h (at0 b) cs := (d.own _ m).1
/-- A new block. -/
theorem new (d : Hs base W h0 h D R) (t : Nat) (cs : List Value) : Hs base W h0 (h ++ [some ⟨cs, t⟩]) ((h.length, t, cs) :: D) R := by
  obtain ⟨o1, k1, q1⟩ := box_own (base := base) (t := t) (h := h) (cs := cs) d.ge rfl
  have d' := d.kN k1
  refine ⟨d'.ge, d'.kb, fun x hx => ?_, ?_, fun r hr => ?_, d'.dj⟩
  · rcases List.mem_cons.1 hx with rfl | hx
    · exact ⟨o1, .inr d.kb.1⟩
    · exact d'.own x hx
  · rw [List.map_cons, List.nodup_cons]
    refine ⟨fun hm => ?_, d'.nd⟩
    obtain ⟨x, hx, e⟩ := List.mem_map.1 hm
    have := ((d.own x hx).1.lt (blk_at0.2 rfl)).2
    simp only at e
    omega
  · obtain ⟨r1, r2, r3, r4, r5⟩ := d'.res r hr
    refine ⟨r1, r2, r3, r4, fun x hx hS => ?_⟩
    rcases List.mem_cons.1 hx with rfl | hx
    · have := (d.res r hr).2.2.1 _ hS
      simp only at this
      omega
    · exact r5 x hx hS
/-- A write into one's own block. -/
theorem wr {b t o : Nat} {cs new : List Value} {D' : Ds} (d : Hs base W h0 h D R) (u : Upd D (b, t, cs) (b, t, setAt cs o new) D') (hi : o + new.length ≤ cs.length) (hz : 0 < new.length) :
    ∃ h1, Am.wr base h b o new = some h1 ∧ Hs base W h0 h1 D' R ∧ h1.length = h.length ∧ KB (· = b) h h1 := by
  obtain ⟨h1, e, o1, k1, l1⟩ := ((d.own _ u.mem).1).wr0 hi hz
  refine ⟨h1, e, ⟨by rw [l1]; exact d.ge, KB.trans d.kb k1 (fun _ _ h => h) (fun i hi hu => ?_), fun x hx => ?_, ?_, fun r hr => ?_, d.dj⟩, l1, k1⟩
  · simp only at hu
    subst hu
    rcases (d.own _ u.mem).2 with h | h
    · exact h
    · simp only at h; omega
  · rcases u.others rfl d.nd x hx with rfl | ⟨hx, hne⟩
    · exact ⟨o1, (d.own _ u.mem).2⟩
    · exact ⟨(d.own x hx).1.keepB k1 fun i hi => (blk_at0.1 hi) ▸ hne, (d.own x hx).2⟩
  · rw [u.fst rfl]; exact d.nd
  · obtain ⟨r1, r2, r3, r4, r5⟩ := d.res r hr
    refine ⟨r2 _ _ _ k1 (fun i hS hi => ?_) r1, r2, fun b hb => by rw [l1]; exact r3 b hb, r4, fun x hx => ?_⟩
    · simp only at hi
      subst hi
      exact r5 _ u.mem hS
    · rcases u.others rfl d.nd x hx with rfl | ⟨hx, _⟩
      · exact fun h => r5 _ u.mem h
      · exact r5 x hx
/-- Something becomes something else, in its own blocks and new ones. -/
theorem upd {U : Fp} {h' : AH} {r r' : Rs} {R' : List Rs} (d : Hs base W h0 h D R) (u : Upd R r r' R') (m : r.mu = true) (m' : r'.mu = true) (k : KB U h h') (hU : ∀ b, U b → r.S b ∨ h.length ≤ b) (hA : r'.A h') (ok : r'.Ok) (hS : ∀ b, r'.S b → r.S b ∨ (h.length ≤ b ∧ b < h'.length)) : Hs base W h0 h' D R' := by
  obtain ⟨r1, r2, r3, r4, r5⟩ := d.res r u.mem
  have hb := d.kb.1
  have hUD : ∀ x ∈ D, ¬ U x.1 := fun x hx hu => by
    have := ((d.own x hx).1.lt (blk_at0.2 rfl)).2
    rcases hU _ hu with h | h
    · exact r5 x hx h
    · omega
  refine ⟨Nat.le_trans d.ge k.1, KB.trans d.kb k (fun _ _ h => h) (fun i hi hu => ?_), fun x hx => ⟨(d.own x hx).1.keep k fun b hb hu => hUD x hx ((blk_at0.1 hb) ▸ hu), (d.own x hx).2⟩, d.nd, ?_, ?_⟩
  · rcases hU i hu with h | h
    · exact (r4 m i h).resolve_right (by omega)
    · omega
  · intro s hs
    rcases u.key d.dj s hs with rfl | ⟨hs, hd⟩
    · refine ⟨hA, ok, fun b hb => ?_, fun _ b hb => ?_, fun x hx hS' => ?_⟩
      · rcases hS b hb with h | h
        · exact Nat.lt_of_lt_of_le (r3 b h) k.1
        · exact h.2
      · rcases hS b hb with h | h
        · exact r4 m b h
        · exact .inr (by omega)
      · have := ((d.own x hx).1.lt (blk_at0.2 rfl)).2
        rcases hS _ hS' with h | h
        · exact r5 x hx h
        · omega
    · obtain ⟨s1, s2, s3, s4, s5⟩ := d.res s hs
      refine ⟨s2 U h h' k (fun b hb hu => ?_) s1, s2, fun b hb => Nat.lt_of_lt_of_le (s3 b hb) k.1, s4, s5⟩
      rcases hU b hu with h | h
      · exact hd (by rw [m]; simp) b hb h
      · have := s3 b hb; omega
  · refine u.pair d.dj fun z hz hd e b h1 h2 => ?_
    rcases hS b h2 with h | h
    · exact hd (by rw [m]; simp) b h1 h
    · have := (d.res z hz).2.2.1 b h1; omega
/-- The same blocks, told otherwise. -/
theorem re {r r' : Rs} {R' : List Rs} (d : Hs base W h0 h D R) (u : Upd R r r' R') (m : r.mu = true) (m' : r'.mu = true) (hA : r'.A h) (ok : r'.Ok) (hS : ∀ b, r'.S b → r.S b) : Hs base W h0 h D R' :=
  d.upd u m m' (KB.refl NoB h) (fun _ h => h.elim) hA ok fun b hb => .inl (hS b hb)
/-- Two become one; the other one's place stays, empty. -/
theorem join {U : Fp} {h' : AH} {r s r' : Rs} {R1 R2 : List Rs} (d : Hs base W h0 h D R) (us : Upd R s ⟨fun _ => False, true, fun _ => True⟩ R1) (ur : Upd R1 r r' R2) (ms : s.mu = true) (m : r.mu = true) (m' : r'.mu = true) (k : KB U h h') (hU : ∀ b, U b → r.S b ∨ h.length ≤ b) (hA : r'.A h') (ok : r'.Ok) (hS : ∀ b, r'.S b → r.S b ∨ s.S b ∨ (h.length ≤ b ∧ b < h'.length)) : Hs base W h0 h' D R2 := by
  have dE : Hs base W h0 h D R1 := d.re us ms rfl trivial (fun _ _ _ _ _ h => h) (fun _ h => h.elim)
  -- as if r had s's blocks
  obtain ⟨r1, r2, r3, r4, r5⟩ := dE.res r ur.mem
  obtain ⟨s1, s2, s3, s4, s5⟩ := d.res s us.mem
  have dj1 := us.off (fun _ h => h) ms d.dj
  obtain ⟨R3, u1, u2⟩ := ur.two ⟨fun b => r.S b ∨ s.S b, true, r.A⟩
  have dF : Hs base W h0 h D R3 := by
    refine ⟨dE.ge, dE.kb, dE.own, dE.nd, fun z hz => ?_, ?_⟩
    · rcases u1.of z hz with rfl | hz
      · refine ⟨r1, fun U h h' k hk => r2 U h h' k fun b hb => hk b (.inl hb), fun b hb => hb.elim (r3 b) (s3 b), fun _ b hb => hb.elim (r4 m b) (s4 ms b), fun x hx hb => hb.elim (r5 x hx) (s5 x hx)⟩
      · exact dE.res z hz
    · refine u1.pair dE.dj fun z hz hd e b h1 h2 => ?_
      rcases h2 with h2 | h2
      · exact hd (by rw [m]; simp) b h1 h2
      · exact dj1 z hz b h1 h2
  exact dF.upd u2 rfl m' k (fun b hb => (hU b hb).imp .inl id) hA ok fun b hb => by
    rcases hS b hb with h | h | h
    · exact .inl (.inl h)
    · exact .inl (.inr h)
    · exact .inr h
/-- An own block is given over to what is known. -/
theorem unbox (d : Hs base W h0 h D R) {b t : Nat} {cs : List Value} {D' : Ds} (u : Del D (b, t, cs) D') : Hs base W h0 h D' (R ++ [⟨(· = b), true, fun y => Own base t y (at0 b) cs⟩]) := by
  obtain ⟨n1, n2⟩ := u.others d.nd
  refine ⟨d.ge, d.kb, fun x hx => d.own x (u.of x hx), n1, fun r hr => ?_, ?_⟩
  · rcases List.mem_append.1 hr with hr | hr
    · obtain ⟨r1, r2, r3, r4, r5⟩ := d.res r hr
      exact ⟨r1, r2, r3, r4, fun x hx => r5 x (u.of x hx)⟩
    · rw [List.mem_singleton] at hr
      subst hr
      refine ⟨(d.own _ u.mem).1, fun U y y' k hk x => x.keep k fun i hi hu => hk i (blk_at0.1 hi) hu, fun i hi => ?_, fun _ i hi => ?_, fun x hx hi => n2 x hx hi⟩
      · simp only at hi; subst hi; exact d.lt u.mem
      · simp only at hi; subst hi; exact (d.own _ u.mem).2
  · rw [List.pairwise_append]
    refine ⟨d.dj, by simp, fun r hr s hs e i h1 h2 => ?_⟩
    rw [List.mem_singleton] at hs
    subst hs
    simp only at h2
    subst h2
    exact (d.res r hr).2.2.2.2 _ u.mem h1
theorem of_ne {l : List Rs} (p : l.Pairwise Rs.dj) {r s : Rs} (hr : r ∈ l) (hs : s ∈ l) (hne : r ≠ s) : r.dj s := by
  induction l with
  | nil => cases hr
  | cons x l ih =>
    rw [List.pairwise_cons] at p
    rcases List.mem_cons.1 hr with h1 | hr
    · rcases List.mem_cons.1 hs with h2 | hs
      · exact absurd (h1.trans h2.symm) hne
      · exact h1 ▸ p.1 s hs
    · rcases List.mem_cons.1 hs with h2 | hs
      · exact h2 ▸ (p.1 r hr).symm
      · exact ih p.2 hr hs
/-- More that is known of what is only read. -/
theorem also (d : Hs base W h0 h D R) {i : Nat} {r : Rs} (e : R[i]? = some r) (m : r.mu = false) (A : AH → Prop) (hA : A h) (ok : ∀ (U : Fp) (h h' : AH), KB U h h' → (∀ b, r.S b → ¬ U b) → A h → A h') : Hs base W h0 h D (R ++ [⟨r.S, false, A⟩]) := by
  have hm := List.mem_of_getElem? e
  obtain ⟨r1, r2, r3, r4, r5⟩ := d.res r hm
  refine ⟨d.ge, d.kb, d.own, d.nd, fun s hs => ?_, ?_⟩
  · rcases List.mem_append.1 hs with hs | hs
    · exact d.res s hs
    · rw [List.mem_singleton] at hs
      subst hs
      exact ⟨hA, ok, r3, fun h => (nomatch h), r5⟩
  · rw [List.pairwise_append]
    refine ⟨d.dj, by simp, fun s hs t ht => ?_⟩
    rw [List.mem_singleton] at ht
    subst ht
    intro e2
    simp only [Bool.or_false] at e2
    have := of_ne d.dj hs hm (fun e3 => by rw [e3, m] at e2; cases e2)
    exact this (by rw [e2]; rfl)
theorem callP {h' : AH} {α : Type} {P : Fp → AH → α → List Value → Prop} (d : Hs base W h0 h D R) (kp : Kp P) (k : KB NoB h h') {x : α} {cs : List Value} (hx : P (iS h.length h'.length) h' x cs) : Hs base W h0 h' D (R ++ [⟨iS h.length h'.length, true, fun y => P (iS h.length h'.length) y x cs⟩]) :=
  d.call k _ _ hx (fun U y y' ky hs z => kp _ U y y' x cs ky hs z) fun b hb => hb
/-- What was known is known no more. -/
theorem junk {U : Fp} {h' : AH} {i : Nat} {r : Rs} (d : Hs base W h0 h D R) (e : R[i]? = some r) (m : r.mu = true) (k : KB U h h') (hU : ∀ b, U b → r.S b ∨ h.length ≤ b) : Hs base W h0 h' D (R.set i ⟨r.S, true, fun _ => True⟩) :=
  d.upd (Upd.at e) m rfl k hU trivial (fun _ _ _ _ _ h => h) fun b hb => .inl hb
theorem joinO {U : Fp} {h' : AH} {r s : Rs} {R1 R2 : List Rs} {α : Type} {t w : Nat} {P : Fp → AH → α → List Value → Prop} {l : List α} {a : Option Addr} {S' : Fp} (d : Hs base W h0 h D R) (kp : Kp P) (us : Upd R s ⟨fun _ => False, true, fun _ => True⟩ R1) (ur : Upd R1 r ⟨S', true, fun y => RowO base t w P S' y l a⟩ R2) (ms : s.mu = true) (m : r.mu = true) (k : KB U h h') (hA : RowO base t w P S' h' l a) (hU : ∀ b, U b → r.S b ∨ h.length ≤ b) (hS : ∀ b, S' b → r.S b ∨ s.S b ∨ (h.length ≤ b ∧ b < h'.length)) : Hs base W h0 h' D R2 :=
  d.join us ur ms m rfl k hU hA (fun U y y' ky hs z => z.keep kp ky hs) hS
theorem updP {U : Fp} {h' : AH} {r : Rs} {R' : List Rs} {α : Type} {P : Fp → AH → α → List Value → Prop} {x : α} {cs : List Value} {S' : Fp} (d : Hs base W h0 h D R) (kp : Kp P) (u : Upd R r ⟨S', true, fun y => P S' y x cs⟩ R') (m : r.mu = true) (k : KB U h h') (hA : P S' h' x cs) (hU : ∀ b, U b → r.S b ∨ h.length ≤ b) (hS : ∀ b, S' b → r.S b ∨ (h.length ≤ b ∧ b < h'.length)) : Hs base W h0 h' D R' :=
  d.upd u m rfl k hU hA (fun U y y' ky hs z => kp _ U y y' x cs ky hs z) hS
theorem joinP {U : Fp} {h' : AH} {r s : Rs} {R1 R2 : List Rs} {α : Type} {P : Fp → AH → α → List Value → Prop} {x : α} {cs : List Value} {S' : Fp} (d : Hs base W h0 h D R) (kp : Kp P) (us : Upd R s ⟨fun _ => False, true, fun _ => True⟩ R1) (ur : Upd R1 r ⟨S', true, fun y => P S' y x cs⟩ R2) (ms : s.mu = true) (m : r.mu = true) (k : KB U h h') (hA : P S' h' x cs) (hU : ∀ b, U b → r.S b ∨ h.length ≤ b) (hS : ∀ b, S' b → r.S b ∨ s.S b ∨ (h.length ≤ b ∧ b < h'.length)) : Hs base W h0 h' D R2 :=
  d.join us ur ms m rfl k hU hA (fun U y y' ky hs z => kp _ U y y' x cs ky hs z) hS
/-- At the end. -/
theorem out {α : Type} {P : Fp → AH → α → List Value → Prop} (d : Hs base NoB h0 h D R) (mo : Mo P) {i : Nat} {S : Fp} {x : α} {cs : List Value} (e : R[i]? = some ⟨S, true, fun y => P S y x cs⟩) : P (iS h0.length h.length) h x cs :=
  mo S _ h x cs (fun b hb => ⟨(d.rfr e rfl b hb).resolve_left (fun h => h), d.rlt e b hb⟩) (d.rs e)
end Hs
/-- A term, laid open. -/
theorem TmR.opn {h : AH} {p : Nat → Prop} {f : Nat} {t : Tm} {k n : Int} {s : ByteArray} {a : Option Addr} {m : Nat} (x : TmR h p (f + 1) t (termV k n s a m)) : ∃ l, t = .mk k n s l ∧ m = l.length ∧ TsR h p f l a ∧ s.size ≤ maxLen ∧ l.length ≤ maxLen := by
  obtain ⟨k', n', s', l⟩ := t
  obtain ⟨a', e, h1, h2, h3⟩ := x.parts
  injection e with q0 e
  injection e with q1 e
  injection e with q2 e
  injection e with q3 _
  injection q0 with _ q0; injection q1 with _ q1; injection q2 with q2; injection q3 with q3 q4 _
  subst q0; subst q1; subst q2; subst q3
  exact ⟨l, rfl, q4, h1, h2, h3⟩

theorem n1 {α : Type} {l : List α} : [] ++ l = l := rfl
theorem n2 {α : Type} {x : α} {l m : List α} : x :: l ++ m = x :: (l ++ m) := rfl
theorem n3 {α : Type} {x y : α} {l : List α} : (x :: l).set 0 y = y :: l := rfl
theorem n4 {α : Type} {x y : α} {l : List α} {n : Nat} : (x :: l).set (n + 1) y = x :: l.set n y := rfl
theorem n5 {α : Type} {x : α} {l : List α} : (x :: l).eraseIdx 0 = l := rfl
theorem n6 {α : Type} {x : α} {l : List α} {n : Nat} : (x :: l).eraseIdx (n + 1) = x :: l.eraseIdx n := rfl
namespace W
variable {β γ : Type} {Q : β → Prop} {base : Nat} {Wr : Fp} {h0 h : AH} {D : Ds} {R : List Rs}
theorem rT (d : Hs base Wr h0 h D R) {b t o : Nat} {cs : List Value} {s : ByteArray} {f : ByteArray → Option β} (m : (b, t, cs) ∈ D) (e : cs[o]? = some (.string s)) (w : Wp (f s) Q) : Wp (((Am.cell h b o).bind getStr).bind f) Q := W.bT (d.getI m e) w
theorem rB (d : Hs base Wr h0 h D R) {b t o : Nat} {cs : List Value} {v : Bool} {f : Bool → Option β} (m : (b, t, cs) ∈ D) (e : cs[o]? = some (.bool v)) (w : Wp (f v) Q) : Wp (((Am.cell h b o).bind getB).bind f) Q := W.bB (d.getI m e) w
theorem rA (d : Hs base Wr h0 h D R) {b t o : Nat} {cs : List Value} {a : Addr} {f : Addr → Option β} (m : (b, t, cs) ∈ D) (e : cs[o]? = some (.pointer (some a))) (w : Wp (f a) Q) : Wp (((Am.cell h b o).bind getA).bind f) Q := W.bA (d.getI m e) w
theorem nD (d : Hs base Wr h0 h D R) {t : Nat} {cs : List Value} {f : AH → Option β} (w : ∀ h1, Hs base Wr h0 h1 ((h.length, t, cs) :: D) R → h1.length = h.length + 1 → Wp (f h1) Q) : Wp ((some (h ++ [some ⟨cs, t⟩])).bind f) Q := w _ (d.new t cs) (by simp)
theorem wD (d : Hs base Wr h0 h D R) {b t o : Nat} {cs new : List Value} {D' : Ds} {f : AH → Option β} (u : Upd D (b, t, cs) (b, t, setAt cs o new) D') (hi : Nat.ble (o + new.length) cs.length = true) (hz : Nat.blt 0 new.length = true) (w : ∀ h1, Hs base Wr h0 h1 D' R → h1.length = h.length → KB (· = b) h h1 → Wp (f h1) Q) : Wp ((Am.wr base h b o new).bind f) Q := by
  obtain ⟨h1, e, d1, l1, k1⟩ := d.wr u (Nat.le_of_ble_eq_true hi) (by rw [Nat.blt_eq] at hz; exact hz)
  rw [e]
  exact w h1 d1 l1 k1
theorem gS (d : Hs base Wr h0 h D R) {b t o n : Nat} {cs cs1 : List Value} {Wr1 : Fp} {h01 h1 : AH} {D1 : Ds} {R1 : List Rs} {x : Option β} (m : (b, t, cs) ∈ D) (d1 : Hs base Wr1 h01 h1 D1 R1) (m1 : (b, t, cs1) ∈ D1) (e : (cs1.drop o).take n = (cs.drop o).take n) (hl : Nat.ble (o + n) cs.length = true) (hl1 : Nat.ble (o + n) cs1.length = true) (w : Wp x Q) : Wp (gate (sameA h1 h (some ⟨b, o, none⟩) n) x) Q := by
  refine W.gt (fun ad ea => ?_) w
  injection ea with ea
  subst ea
  have hl := Nat.le_of_ble_eq_true hl
  have hl1 := Nat.le_of_ble_eq_true hl1
  refine ⟨fun j hj => ?_, ?_⟩
  · have e2 : (cs1.drop o)[j]? = (cs.drop o)[j]? := by
      have := congrArg (·[j]?) e
      simp only [List.getElem?_take_of_lt hj] at this
      exact this
    rw [List.getElem?_drop, List.getElem?_drop] at e2
    have g1 := d1.getI m1 (o := o + j) (List.getElem?_eq_getElem (by omega))
    have g2 := d.getI m (o := o + j) (List.getElem?_eq_getElem (by omega))
    rw [List.getElem?_eq_getElem (by omega), List.getElem?_eq_getElem (by omega)] at e2
    injection e2 with e2
    show Am.cell h1 b (o + j) = Am.cell h b (o + j)
    rw [g1, g2, e2]
  · have ty : ∀ {h : AH} {cs : List Value}, Own base t h (at0 b) cs → (hget h b).map (·.ty) = some t := fun o => by
      rcases o with ⟨e, _⟩ | ⟨ad, k, e1, _, e2, e3, _⟩
      · cases e
      · injection e1 with e1
        subst e1
        rw [e2]
        simp [e3]
    show (hget h1 b).map (·.ty) = (hget h b).map (·.ty)
    rw [ty (d1.ol m1), ty (d.ol m)]
theorem gN (d : Hs base Wr h0 h D R) {b t o : Nat} {cs : List Value} {x : Option β} (m : (b, t, cs) ∈ D) (w : Wp x Q) : Wp (gate (neA (some ⟨b, o, none⟩) h.length) x) Q := W.gt (ne_A (Nat.ne_of_lt (d.lt m))) w
theorem iB {i n : Int} {a b : Option β} (h1 : 0 ≤ i) (h2 : i < n) (w : Wp a Q) : Wp (if 0 ≤ i ∧ i < n then a else b) Q := W.ifT ⟨h1, h2⟩ w
theorem rG (d : Hs base Wr h0 h D R) {α : Type} {b t o : Nat} {cs : List Value} {v : Value} {g : Value → Option α} {y : α} {f : α → Option β} (m : (b, t, cs) ∈ D) (e : cs[o]? = some v) (eg : g v = some y) (w : Wp (f y) Q) : Wp (((Am.cell h b o).bind g).bind f) Q := by
  rw [d.getI m e, Option.bind_some, eg]
  exact w
theorem bE {α δ : Type} {x : Option δ} {g : δ → Option α} {y : α} {f : α → Option β} (e : x.bind g = some y) (w : Wp (f y) Q) : Wp ((x.bind g).bind f) Q := by rw [e]; exact w
theorem bU {n : Nat} {v : Value} {l : List Value} {f : List Value → Option β} (e : getTup n v = some l) (w : Wp (f l) Q) : Wp ((getTup n v).bind f) Q := by rw [e]; exact w
theorem bo {a : Addr} {f : Addr → Option β} (w : Wp (f a) Q) : Wp ((some a).bind f) Q := w
/-- A term of a row is read. -/
theorem t4 {p : Nat → Prop} {g : Nat} {l : List Tm} {a : Option Addr} (hs : TsR h p (g + 1) l a) {i : Nat} (hi : i < l.length) {f : Int → Int → ByteArray → Option Addr × Nat → Option β} (w : ∀ k n s a2 l2, l[i] = .mk k n s l2 → TmR h p (g + 1) (.mk k n s l2) (termV k n s a2 l2.length) → TsR h p g l2 a2 → s.size ≤ maxLen → l2.length ≤ maxLen → Wp (f k n s (a2, l2.length)) Q) :
    Wp (a.bind fun ad => ((Am.cell h ad.block (ad.off + i * 4)).bind (getI .i64)).bind fun n1 => ((Am.cell h ad.block (ad.off + i * 4 + 1)).bind (getI .i64)).bind fun n2 => ((Am.cell h ad.block (ad.off + i * 4 + 1 + 1)).bind getStr).bind fun s3 => ((Am.cell h ad.block (ad.off + i * 4 + 1 + 1 + 1)).bind getS).bind fun l4 => f n1 n2 s3 l4) Q := by
  obtain ⟨ad, k, n, s, a2, m, rfl, g0, g1, g2, g3, hm⟩ := hs.getT hi
  obtain ⟨l2, e, rfl, h1, h2, h3⟩ := hm.opn
  refine W.bs rfl (W.bI g0 (W.bI g1 (W.bT g2 (W.bS g3 (w k n s a2 l2 e ?_ h1 h2 h3)))))
  rw [← e]
  exact hm
/-! the same, with what is plain left to be found -/
theorem a1 (d : Hs base Wr h0 h D R) {α : Type} {b t o : Nat} {cs : List Value} {v : Value} {g : Value → Option α} {y : α} {f : α → Option β} (w : Wp (f y) Q) (m : (b, t, cs) ∈ D := by with_unfolding_all (repeat first | exact List.Mem.head _ | apply List.Mem.tail)) (e : cs[o]? = some v := by with_unfolding_all exact rfl) (eg : g v = some y := by with_unfolding_all exact rfl) : Wp (((Am.cell h b o).bind g).bind f) Q := rG d m e eg w
theorem a2 {α δ : Type} {x : Option δ} {g : δ → Option α} {y : α} {f : α → Option β} (w : Wp (f y) Q) (e : x.bind g = some y := by with_unfolding_all exact rfl) : Wp ((x.bind g).bind f) Q := bE e w
theorem a3 {n : Nat} {v : Value} {l : List Value} {f : List Value → Option β} (w : Wp (f l) Q) (e : getTup n v = some l := by with_unfolding_all exact rfl) : Wp ((getTup n v).bind f) Q := bU e w
theorem a5 (d : Hs base Wr h0 h D R) {b t o : Nat} {cs new : List Value} {D' : Ds} {f : AH → Option β} (w : ∀ h1, Hs base Wr h0 h1 D' R → h1.length = h.length → KB (· = b) h h1 → Wp (f h1) Q) (u : Upd D (b, t, cs) (b, t, setAt cs o new) D' := by with_unfolding_all (repeat first | exact Upd.here | apply Upd.there)) (hi : Nat.ble (o + new.length) cs.length = true := by with_unfolding_all exact rfl) (hz : Nat.blt 0 new.length = true := by with_unfolding_all exact rfl) : Wp ((Am.wr base h b o new).bind f) Q := wD d u hi hz w
theorem a6 (d : Hs base Wr h0 h D R) {b t o n : Nat} {cs cs1 : List Value} {Wr1 : Fp} {h01 h1 : AH} {D1 : Ds} {R1 : List Rs} {x : Option β} (w : Wp x Q) (d1 : Hs base Wr1 h01 h1 D1 R1 := by assumption) (m : (b, t, cs) ∈ D := by with_unfolding_all (repeat first | exact List.Mem.head _ | apply List.Mem.tail)) (m1 : (b, t, cs1) ∈ D1 := by with_unfolding_all (repeat first | exact List.Mem.head _ | apply List.Mem.tail)) (e : (cs1.drop o).take n = (cs.drop o).take n := by with_unfolding_all exact rfl) (hl : Nat.ble (o + n) cs.length = true := by with_unfolding_all exact rfl) (hl1 : Nat.ble (o + n) cs1.length = true := by with_unfolding_all exact rfl) : Wp (gate (sameA h1 h (some ⟨b, o, none⟩) n) x) Q := gS d m d1 m1 e hl hl1 w
theorem a7 {b t o : Nat} {cs : List Value} {x : Option β} (w : Wp x Q) (d : Hs base Wr h0 h D R := by assumption) (m : (b, t, cs) ∈ D := by with_unfolding_all (repeat first | exact List.Mem.head _ | apply List.Mem.tail)) : Wp (gate (neA (some ⟨b, o, none⟩) h.length) x) Q := gN d m w
theorem a8 {i n : Int} {a b : Option β} (w : Wp a Q) (h1 : 0 ≤ i := by first | omega | (dsimp only; omega)) (h2 : i < n := by first | omega | (dsimp only; omega)) : Wp (if 0 ≤ i ∧ i < n then a else b) Q := iB h1 h2 w
/-- Two ways meet; nothing but a flag and new blocks. -/
theorem jb {L : Slots} (B : Bool) (d : Hs base Wr h0 h D R) {x : Option (Sum (Slots × AH) β)} {k : Slots × AH → Option β} (w : Wp x (Sum.elim (fun q => q.1.dropLast = L ∧ q.1.getLast? = some (some (.bool B)) ∧ KB NoB h q.2) Q)) (w2 : ∀ h1, Hs base Wr h0 h1 D R → h.length ≤ h1.length → Wp (k (L ++ [some (.bool B)], h1)) Q) : Wp (x.bind fun j => joinK j k) Q := by
  refine W.joinP _ w fun q hq => ?_
  obtain ⟨q1, q2⟩ := q
  obtain ⟨e1, e2, k2⟩ := hq
  simp only at e1 e2 k2
  have : q1 = L ++ [some (.bool B)] := by
    rw [← e1]
    rw [List.getLast?_eq_some_iff] at e2
    obtain ⟨ys, rfl⟩ := e2
    simp
  rw [this]
  exact w2 q2 (d.kN k2) k2.1
theorem lb {L : Slots} {B : Bool} {q1 : Slots} {h1 h2 : AH} (e1 : q1.dropLast = L) (e2 : q1.getLast? = some (some (.bool B))) (k : KB NoB h1 h2) : Wp (some (Sum.inl (q1, h2) : Sum (Slots × AH) β)) (Sum.elim (fun q => q.1.dropLast = L ∧ q.1.getLast? = some (some (.bool B)) ∧ KB NoB h1 q.2) Q) := W.inl ⟨e1, e2, k⟩
end W
end Go.Proofs.Ytolcnednfbbnnaa.Am


set_option linter.unusedSimpArgs false
set_option linter.unusedVariables false
namespace Go.Proofs.Ytolcnednfbbnnaa.Am
open Go Go.RowKit

def in0 : In := ⟨0, 0, 0, 0, 0, ⟨#[]⟩⟩
def fltA : Acd := ⟨7, 0, 0, .mk 2 0 flt []⟩
/-- Registers and box behind an instruction; none: it is at fault. -/
def nextF (F : Nat) (x : In) (A : Ac) (next : Int) : Option (List Tm × List Tm) :=
  if (x.op == (14 : Int)) = true then some (A.regs.set x.a.toNat (A.box.getD 0 tmZ), A.box.drop 1)
  else if makesF x.op = true then (match madeF x A.regs A.pid next with | none => none | some t => if tOk F t = true then some (A.regs.set x.a.toNat t, A.box) else none)
  else some (A.regs, A.box)
/-- A step of an actor that is right. -/
def stepF (F : Nat) (x : In) (A : Ac) (next : Int) : Ac × Acd :=
  if (!(actsF x A.regs next).2) = true then (A, fltA)
  else if (x.op == (19 : Int)) = true then (A, (actsF x A.regs next).1)
  else if (if (x.op == (14 : Int)) = true then ((A.box.length : Int) == (0 : Int)) else false) = true then (A, ⟨2, 0, 0, tmZ⟩)
  else match nextF F x A next with
    | none => (A, fltA)
    | some (R, B) => (⟨A.pid, if jumpsF F x A.regs = true then x.n else IntKind.wrap .i64 (A.pc + 1), R, B, A.links⟩, (actsF x A.regs next).1)
def stepA (f : Nat) (l : List In) (A : Ac) (next : Int) : Ac × Acd :=
  if (!(acOk (f + 1) l A && inB next 1 99999)) = true then (A, ⟨0, 0, 0, tmZ⟩) else stepF (f + 2) (l.getD A.pc.toNat in0) A next

theorem acOk_parts {f : Nat} {l : List In} {A : Ac} (h : acOk f l A = true) : codeOk l = true ∧ (0 ≤ A.pc ∧ A.pc < (l.length : Int)) ∧ A.regs.length = 8 ∧ tsB f A.regs = true ∧ A.box.length ≤ 30 ∧ tsB f A.box = true := by
  unfold acOk at h
  simp only [Bool.and_eq_true, decide_eq_true_eq, beq_iff_eq] at h
  obtain ⟨h1, h2, h3, h4, h5, h6, h7, _⟩ := h
  have := codeOk_spec h1
  unfold inB at h3
  simp only [Bool.and_eq_true, decide_eq_true_eq] at h3
  rw [w64i (by omega) (by omega)] at h3
  exact ⟨h1, ⟨h3.1, by omega⟩, by omega, h5, by omega, h7⟩
/-- What a step gives: an actor and an act, each in blocks of its own, new ones. -/
def StepQ (base F : Nat) (h : AH) (r : Ac × Acd) (o : Value × AH) : Prop :=
  ∃ cs k n s a m S T, o.1 = .tuple #[.agg cs.toArray, .agg (actV r.2.kind r.2.pid r.2.pc k n s a m).toArray] ∧ AcG base F S o.2 r.1 cs ∧ TmG base F T o.2 r.2.t (termV k n s a m) ∧ (∀ b, S b → ¬ T b) ∧ (∀ b, S b → h.length ≤ b ∧ b < o.2.length) ∧ (∀ b, T b → h.length ≤ b ∧ b < o.2.length) ∧ KB NoB h o.2

theorem atomG {base f : Nat} {S : Fp} {h : AH} {s : ByteArray} {k : Int} (hs : s.size ≤ maxLen) : TmG base (f + 1) S h (.mk k 0 s []) (termV k 0 s none 0) := ⟨hs, by decide, none, rfl, RowO.nil⟩

theorem implStep_run {base f : Nat} {h : AH} {S : Fp} {l : List In} {c : Option Addr} {A : Ac} {cs : List Value} {next : Int} (hL : ∀ x ∈ l, x.s.size ≤ 9223372036854775807) (hl : l.length ≤ 9223372036854775807) (hc : Sl h c (insR l)) (hBA : AcB (f + 1) A) (x : AcG base (f + 1) S h A cs) (hS : ∀ b, S b → b < h.length) (hb : base ≤ h.length) :
    Wp (run (Et base) 23 [.slice c l.length l.length, .agg cs.toArray, .int .i64 next] h) (StepQ base (f + 2) h (stepA f l A next)) := by
  have xR := x.acR
  have xG := x
  obtain ⟨a, b, g, S1, S2, S3, rfl, r1, r2, r3, hg, s1, s2, s3, d1, d2, d3⟩ := x
  refine W.of (fun r hx => r23 hx) ?_
  refine W.box hb fun h1 o1 k1 q1 => W.box (base := base) (by omega) fun h2 oR1 k2 q2 => W.box (base := base) (by omega) fun h3 oR2 k3 q3 => ?_
  have k03 := kN (kN k1 k2) k3
  have o1 := (o1.keepN k2).keepN k3
  have oR1 := oR1.keepN k3
  obtain ⟨cs4, h4, e4, A4, k4⟩ := copyActor_run (base := base) hBA (xR.keep k03 fun _ _ h => h) (by omega) (fun b hb => by have := hS b hb; omega)
  have n4 := k4.1
  obtain ⟨p4, c4, a4, x4, b4, y4, g4, z4, rfl⟩ := A4.form
  refine W.q5 o1 (W.bs e4 (W.bs (v := acV p4 c4 a4 x4 b4 y4 g4 z4) rfl (W.bI rfl (W.bI rfl (W.bS rfl (W.bS rfl (W.bS rfl (W.nw (base := base) (h := h4) (by omega) rfl fun h5 o5 k5 q5' => ?_))))))))
  have k35 := kN k4 k5
  have k05 := kN k03 k35
  have o1 := o1.keepN k35
  have oR1 := oR1.keepN k35
  have oR2 := oR2.keepN k35
  obtain ⟨h6, e6, k6⟩ := implActorOk_run (base := base) hL hl (hc.keepN k05) hBA.M (xR.keep k05 fun _ _ h => h) (by omega)
  have n6 := k6.1
  have k06 := kN k05 k6
  refine W.joinP (fun q => q = ([some (.slice c l.length l.length), some (.int .i64 next), some (.pointer (at0 h.length)), some (.pointer (at0 h1.length)), some (.pointer (at0 h2.length)), some (.pointer (at0 h4.length)), some (.bool (!(acOk (f + 1) l A && inB next 1 99999)))], h6)) ?_ fun q hq => ?_
  · refine W.q5 o1 (W.bs e6 (W.bB rfl (W.ite (fun d => ?_) fun d => ?_)))
    · have d' : acOk (f + 1) l A = false := by simpa using d
      rw [d']; exact W.inl rfl
    · have d' : acOk (f + 1) l A = true := by simpa using d
      refine W.bs in_run (W.bB rfl (W.inl ?_))
      rw [d', Bool.true_and]
  subst hq
  have o1 := o1.keepN k6
  have oR1 := oR1.keepN k6
  have oR2 := oR2.keepN k6
  have o5 := o5.keepN k6
  have A6 : AcG base (f + 2) (iS h3.length h4.length) h6 A (acV p4 c4 a4 x4 b4 y4 g4 z4) := (AcG.kp _ _ _ _ _ _ _ _ (kN k5 k6) (fun _ _ h => h) A4).le (by omega)
  -- how a branch ends
  have ex : ∀ {hz ha hb : AH} {A' : Ac} {S' T : Fp} {p c : Int} {a b g : Option Addr} {x y z : Nat} {kd pid pc k n : Int} {s : ByteArray} {ad : Option Addr} {m : Nat} {t : Tm} (oa : Own base 52 ha (at0 h1.length) (setAt (acV 0 0 none 0 none 0 none 0) 0 (acV p c a x b y g z))) (ka : KB (· = h1.length) hz ha) (la : ha.length = hz.length) (ob : Own base 54 hb (at0 h2.length) (setAt (actV 0 0 0 0 0 ⟨#[]⟩ none 0) 0 (actV kd pid pc k n s ad m))) (kb : KB (· = h2.length) ha hb) (lb : hb.length = ha.length) (k0z : KB NoB h hz) (k6z : h6.length ≤ hz.length)
      (hA : AcG base (f + 2) S' hz A' (acV p c a x b y g z)) (ht : TmG base (f + 2) T hz t (termV k n s ad m)) (hST : ∀ b, S' b → ¬ T b) (hS' : ∀ b, S' b → h3.length ≤ b ∧ b < hz.length) (hT : ∀ b, T b → h3.length ≤ b ∧ b < hz.length),
      Wp (((Am.cell hb h1.length 0).bind (getI .i64)).bind fun n1 => ((Am.cell hb h1.length 1).bind (getI .i64)).bind fun n2 => ((Am.cell hb h1.length 2).bind getS).bind fun l3 => ((Am.cell hb h1.length 3).bind getS).bind fun l4 => ((Am.cell hb h1.length 4).bind getS).bind fun l5 =>
        ((Am.cell hb h2.length 0).bind (getI .i64)).bind fun m1 => ((Am.cell hb h2.length 1).bind (getI .i64)).bind fun m2 => ((Am.cell hb h2.length 2).bind (getI .i64)).bind fun m3 => ((Am.cell hb h2.length 3).bind (getI .i64)).bind fun m4 => ((Am.cell hb h2.length 4).bind (getI .i64)).bind fun m5 => ((Am.cell hb h2.length 5).bind getStr).bind fun s6 => ((Am.cell hb h2.length 6).bind getS).bind fun l7 =>
        some ((Value.tuple #[(.agg #[(.int .i64 n1), (.int .i64 n2), (.slice l3.1 l3.2 l3.2), (.slice l4.1 l4.2 l4.2), (.slice l5.1 l5.2 l5.2)]), (.agg #[(.int .i64 m1), (.int .i64 m2), (.int .i64 m3), (.int .i64 m4), (.int .i64 m5), (.string s6), (.slice l7.1 l7.2 l7.2)])]), hb)) (StepQ base (f + 2) h (A', ⟨kd, pid, pc, t⟩)) := by
    intro hz ha hb A' S' T p c a b g x y z kd pid pc k n s ad m t oa ka la ob kb lb k0z k6z hA ht hST hS' hT
    have hz0 : setAt (acV 0 0 none 0 none 0 none 0) 0 (acV p c a x b y g z) = acV p c a x b y g z := rfl
    rw [hz0] at oa
    have hz1 : setAt (actV 0 0 0 0 0 ⟨#[]⟩ none 0) 0 (actV kd pid pc k n s ad m) = actV kd pid pc k n s ad m := rfl
    rw [hz1] at ob
    have oa := oa.keepB kb fun i hi => by rw [blk_at0] at hi; omega
    refine W.q5 oa (q7 ob (W.ret ⟨_, _, _, _, _, _, S', T, rfl, ?_, ?_, hST, fun b hb => ?_, fun b hb => ?_, kFresh (kFresh k0z ka fun i hi => by omega) kb fun i hi => by omega⟩))
    · exact AcG.kp _ _ _ _ _ _ _ _ kb (fun b hb hk => by have := hS' b hb; omega) (AcG.kp _ _ _ _ _ _ _ _ ka (fun b hb hk => by have := hS' b hb; omega) hA)
    · exact TmG.kp _ _ _ _ _ _ _ _ kb (fun b hb hk => by have := hT b hb; omega) (TmG.kp _ _ _ _ _ _ _ _ ka (fun b hb hk => by have := hT b hb; omega) ht)
    · have := hS' b hb; simp only; omega
    · have := hT b hb; simp only; omega
  have n12 : ∀ {i : Nat}, blk (at0 h2.length) i → i ≠ h1.length := fun hi => by rw [blk_at0] at hi; omega
  unfold stepA
  refine W.bS rfl (W.bI rfl (W.bA rfl (W.bA rfl (W.bA rfl (W.bA rfl (W.bB rfl (W.ite (fun d => ?_) fun d => ?_)))))))
  · rw [if_pos d]
    refine W.q5 o5 (W.wr0 oR1 (by simp) (by simp) fun ha oa ka la => W.wr0 (oR2.keepB ka fun i hi => n12 hi) (by simp) (by simp) fun hb ob kb lb => ?_)
    exact ex oa ka la ob kb lb k06 (Nat.le_refl _) A6 (tmZ_G (S := fun _ => False)) (fun _ _ h => h) (fun b hb => ⟨hb.1, by have := hb.2; show b < h6.length; omega⟩) (fun _ h => h.elim)
  rw [if_neg d]
  have d' : acOk (f + 1) l A = true ∧ inB next 1 99999 = true := by simpa using d
  obtain ⟨hcode, ⟨pc0, pcl⟩, hR8, htR, hbx, htB⟩ := acOk_parts d'.1
  have hpc : A.pc.toNat < l.length := by omega
  obtain ⟨cd, rfl, w0, w1, w2, w3, w4, w5⟩ := In.get (hc.keepN k06) hpc
  have hIn := codeOk_bd hcode _ (List.getElem_mem hpc)
  have hsz := (codeOk_spec hcode).2.2 _ (List.getElem_mem hpc)
  have el : l.getD A.pc.toNat in0 = l[A.pc.toNat] := by simp [hpc]
  rw [el]
  generalize l[A.pc.toNat] = x at w0 w1 w2 w3 w4 w5 hIn hsz
  obtain ⟨m1, m2, m3, m4, m5⟩ := hBA
  refine W.bI (o1.at0 (i := 1) rfl) (W.ifT ⟨pc0, pcl⟩ (W.bs rfl (W.bI w0 (W.bI w1 (W.bI w2 (W.bI w3 (W.bI w4 (W.bT w5 (W.nw (base := base) (h := h6) (by omega) rfl fun h7 o7 k7 q7' => ?_))))))))) 
  have q7' : h7.length = h6.length + 1 := q7'
  have k7 : KB NoB h6 h7 := k7
  have k07 := kN k06 k7
  have o1 := o1.keepN k7
  have hR7 := r1.keep (TmG.kp _ _) k07 fun _ _ h => h
  have hS1 : ∀ b, S1 b → b < h7.length := fun b hb => by have := hS b (s1 b hb); omega
  obtain ⟨k, n, s, ad, m, h8, e8, t8, k8⟩ := acts_run (base := base) (next := next) hR7.tsG hR8 hIn m4 (by omega) hS1
  have n8 := k8.1
  have k08 := kN k07 k8
  have qi : ∀ {β : Type} {Q : β → Prop} {ff : Int → Int → Int → Int → Int → ByteArray → Option β} {hz : AH} (o : Own base 82 hz (at0 h6.length) (inV x)) (w : Wp (ff x.op x.a x.b x.c x.n x.s) Q), Wp (((Am.cell hz h6.length 0).bind (getI .i64)).bind fun n1 => ((Am.cell hz h6.length 1).bind (getI .i64)).bind fun n2 => ((Am.cell hz h6.length 2).bind (getI .i64)).bind fun n3 => ((Am.cell hz h6.length 3).bind (getI .i64)).bind fun n4 => ((Am.cell hz h6.length 4).bind (getI .i64)).bind fun n5 => ((Am.cell hz h6.length 5).bind getStr).bind fun s6 => ff n1 n2 n3 n4 n5 s6) Q :=
    fun o w => W.bI (o.at0 (i := 0) rfl) (W.bI (o.at0 (i := 1) rfl) (W.bI (o.at0 (i := 2) rfl) (W.bI (o.at0 (i := 3) rfl) (W.bI (o.at0 (i := 4) rfl) (W.bT (o.at0 (i := 5) rfl) w)))))
  refine qi o7 (W.bS (o1.at0 (i := 2) rfl) (W.bs e8 (W.bs (v := [Value.agg (actV (actsF x A.regs next).1.kind (actsF x A.regs next).1.pid (actsF x A.regs next).1.pc k n s ad m).toArray, Value.bool (actsF x A.regs next).2]) rfl (W.bs (v := actV (actsF x A.regs next).1.kind (actsF x A.regs next).1.pid (actsF x A.regs next).1.pc k n s ad m) rfl (W.bI rfl (W.bI rfl (W.bI rfl (W.bI rfl (W.bI rfl (W.bT rfl (W.bS rfl (W.bB rfl (W.nw (base := base) (h := h8) (by omega) rfl fun h9 o9 k9 q9 => ?_)))))))))))))
  have q9 : h9.length = h8.length + 1 := q9
  have k9 : KB NoB h8 h9 := k9
  have k79 := kN k8 k9
  have k09 := kN k07 k79
  have k69 := kN k7 k79
  have o1 := o1.keepN k79
  have o7 := o7.keepN k79
  have oR1 := oR1.keepN k69
  have oR2 := oR2.keepN k69
  have o5 := o5.keepN k69
  have A9 : AcG base (f + 2) (iS h3.length h4.length) h9 A (acV p4 c4 a4 x4 b4 y4 g4 z4) := AcG.kp _ _ _ _ _ _ _ _ k69 (fun _ _ h => h) A6
  have t9 : TmG base (f + 2) (iS h7.length h8.length) h9 (actsF x A.regs next).1.t (termV k n s ad m) := (TmG.kp _ _ _ _ _ _ _ _ k9 (fun _ _ h => h) t8).le (by omega)
  have hA9 : ∀ b, iS h3.length h4.length b → h3.length ≤ b ∧ b < h9.length := fun b hb => by omega
  have hT9 : ∀ b, iS h7.length h8.length b → h3.length ≤ b ∧ b < h9.length := fun b hb => by omega
  have hd9 : ∀ b, iS h3.length h4.length b → ¬ iS h7.length h8.length b := fun b hb hb' => by omega
  -- how a fault ends
  have exF : ∀ {P : Slots × AH → Prop} {hz : AH} (k9z : KB NoB h9 hz), Wp ((run (Et base) 68 [] hz).bind fun r224 => ((some r224.1).bind (getAgg 7)).bind fun l225 => ((l225[0]?).bind (getI .i64)).bind fun n226 => ((l225[1]?).bind (getI .i64)).bind fun n227 => ((l225[2]?).bind (getI .i64)).bind fun n228 => ((l225[3]?).bind (getI .i64)).bind fun n229 => ((l225[4]?).bind (getI .i64)).bind fun n230 => ((l225[5]?).bind getStr).bind fun s231 => ((l225[6]?).bind getS).bind fun l232 =>
      (gate (sameA hz r224.2 (at0 h4.length) 5) ((Am.wr base r224.2 h1.length 0 (acV p4 c4 a4 x4 b4 y4 g4 z4)).bind fun ha => (Am.wr base ha h2.length 0 [(.int .i64 n226), (.int .i64 n227), (.int .i64 n228), (.int .i64 n229), (.int .i64 n230), (.string s231), (.slice l232.1 l232.2 l232.2)]).bind fun hb => (((Am.cell hb h1.length 0).bind (getI .i64)).bind fun n1 => ((Am.cell hb h1.length 1).bind (getI .i64)).bind fun n2 => ((Am.cell hb h1.length 2).bind getS).bind fun l3 => ((Am.cell hb h1.length 3).bind getS).bind fun l4 => ((Am.cell hb h1.length 4).bind getS).bind fun l5 =>
        ((Am.cell hb h2.length 0).bind (getI .i64)).bind fun m1 => ((Am.cell hb h2.length 1).bind (getI .i64)).bind fun m2 => ((Am.cell hb h2.length 2).bind (getI .i64)).bind fun m3 => ((Am.cell hb h2.length 3).bind (getI .i64)).bind fun m4 => ((Am.cell hb h2.length 4).bind (getI .i64)).bind fun m5 => ((Am.cell hb h2.length 5).bind getStr).bind fun s6 => ((Am.cell hb h2.length 6).bind getS).bind fun l7 =>
        some ((Value.tuple #[(.agg #[(.int .i64 n1), (.int .i64 n2), (.slice l3.1 l3.2 l3.2), (.slice l4.1 l4.2 l4.2), (.slice l5.1 l5.2 l5.2)]), (.agg #[(.int .i64 m1), (.int .i64 m2), (.int .i64 m3), (.int .i64 m4), (.int .i64 m5), (.string s6), (.slice l7.1 l7.2 l7.2)])]), hb)).map Sum.inr))) (Sum.elim P (StepQ base (f + 2) h (A, fltA))) := by
    intro P hz k9z
    have n9z := k9z.1
    obtain ⟨hf, ef, kf⟩ := fault_run (base := base) (h := hz) (by omega)
    have nf := kf.1
    have k9f := kN k9z kf
    refine W.bs ef (W.bs (v := actV 7 0 0 2 0 flt none 0) rfl (W.bI rfl (W.bI rfl (W.bI rfl (W.bI rfl (W.bI rfl (W.bT rfl (W.bS rfl (W.gt (same_keep kf ((o5.keepN k9z).at0 (i := 0) rfl)) (W.wr0 (oR1.keepN k9f) (by simp) (by simp) fun ha oa ka la => W.wr0 ((oR2.keepN k9f).keepB ka fun i hi => n12 hi) (by simp) (by simp) fun hb ob kb lb => ?_))))))))))
    exact W.mp (ex oa ka la ob kb lb (kN k09 k9f) (by have := k9f.1; show h6.length ≤ hf.length; omega) (AcG.kp _ _ _ _ _ _ _ _ k9f (fun _ _ h => h) A9) (atomG (S := fun _ => False) (by decide)) (fun _ _ h => h) (fun b hb => by have := hA9 b hb; show _ ∧ b < hf.length; omega) (fun _ h => h.elim))
  unfold stepF
  refine W.joinP (fun q => ∃ (hz : AH) (R B : List Tm) (csz : List Value) (Sz : Fp), q = ([some (.pointer (at0 h.length)), some (.pointer (at0 h1.length)), some (.pointer (at0 h2.length)), some (.pointer (at0 h4.length)), some (.pointer (at0 h6.length)), some (.pointer (at0 h8.length))], hz) ∧
      (stepF (f + 2) x A next = (⟨A.pid, if jumpsF (f + 2) x A.regs = true then x.n else IntKind.wrap .i64 (A.pc + 1), R, B, A.links⟩, (actsF x A.regs next).1)) ∧
      AcG base (f + 2) Sz hz ⟨A.pid, A.pc, R, B, A.links⟩ csz ∧ Own base 52 hz (at0 h4.length) csz ∧ (∀ b, Sz b → (h3.length ≤ b ∧ b < h4.length) ∨ (h9.length ≤ b ∧ b < hz.length)) ∧ KB (fun b => (h3.length ≤ b ∧ b < h4.length) ∨ b = h4.length) h9 hz) ?_ fun q hq => ?_
  · have hsF : stepF (f + 2) x A next = if (!(actsF x A.regs next).2) = true then (A, fltA) else if (x.op == (19 : Int)) = true then (A, (actsF x A.regs next).1) else if (if (x.op == (14 : Int)) = true then ((A.box.length : Int) == (0 : Int)) else false) = true then (A, ⟨2, 0, 0, tmZ⟩) else match nextF (f + 2) x A next with | none => (A, fltA) | some (R, B) => (⟨A.pid, if jumpsF (f + 2) x A.regs = true then x.n else IntKind.wrap .i64 (A.pc + 1), R, B, A.links⟩, (actsF x A.regs next).1) := rfl
    refine W.ite (fun e1 => ?_) fun e1 => ?_
    · rw [if_pos e1]
      exact W.q5 o5 (exF (KB.refl _ _))
    rw [if_neg e1] at hsF ⊢
    refine W.bI (o7.at0 (i := 0) rfl) (W.ite (fun e2 => ?_) fun e2 => ?_)
    · rw [if_pos e2]
      refine W.q5 o5 (q7 o9 (W.wr0 oR1 (by simp) (by simp) fun ha oa ka la => W.gt (same_KB ka (show h8.length < h9.length by omega) (show ¬ (h8.length = h1.length) by omega)) (W.wr0 (oR2.keepB ka fun i hi => n12 hi) (by simp) (by simp) fun hb ob kb lb => W.mp ?_)))
      exact ex oa ka la ob kb lb k09 (by show h6.length ≤ h9.length; omega) A9 t9 hd9 hA9 hT9
    rw [if_neg e2] at hsF ⊢
    refine W.joinP (fun q => q = ([some (.int .i64 next), some (.pointer (at0 h.length)), some (.pointer (at0 h1.length)), some (.pointer (at0 h2.length)), some (.pointer (at0 h4.length)), some (.pointer (at0 h6.length)), some (.pointer (at0 h8.length)), some (.bool (if (x.op == (14 : Int)) = true then ((A.box.length : Int) == (0 : Int)) else false))], h9)) ?_ fun q hq => ?_
    · refine W.bI (o7.at0 (i := 0) rfl) (W.ite (fun e3 => ?_) fun e3 => ?_)
      · rw [if_pos e3]; exact W.bS (o1.at0 (i := 3) rfl) (W.inl rfl)
      · rw [if_neg e3]; exact W.inl rfl
    subst hq
    refine W.bI rfl (W.bA rfl (W.bA rfl (W.bA rfl (W.bA rfl (W.bA rfl (W.bA rfl (W.bB rfl (W.ite (fun e3 => ?_) fun e3 => ?_))))))))
    · rw [if_pos e3]
      refine W.q5 o5 (W.wr0 oR1 (by simp) (by simp) fun ha oa ka la => W.wr0 (oR2.keepB ka fun i hi => n12 hi) (by simp) (by simp) fun hb ob kb lb => W.mp ?_)
      exact ex oa ka la ob kb lb k09 (by show h6.length ≤ h9.length; omega) A9 (tmZ_G (S := fun _ => False)) (fun _ _ h => h) (fun b hb => hA9 b hb) (fun _ h => h.elim)
    rw [if_neg e3] at hsF ⊢
    have hxa : x.a.toNat < A.regs.length := by have := hIn.1; omega
    refine W.bI (o7.at0 (i := 0) rfl) (W.ite (fun e4' => ?_) fun e4' => ?_)
    · -- a term is taken out of the box
      rw [if_pos e4'] at e3
      have hbl : A.box.length ≠ 0 := fun e => e3 (by rw [e]; rfl)
      obtain ⟨t0, B0, eB⟩ : ∃ t0 B0, A.box = t0 :: B0 := by
        cases hbx : A.box with
        | nil => rw [hbx] at hbl; exact absurd rfl hbl
        | cons t0 B0 => exact ⟨t0, B0, rfl⟩
      obtain ⟨aa, bb, gg, k', n', s', a', m', h10, ecs, g0, g1, g2, g3, w10, hok, A10, k10, l10⟩ := A9.take hxa eB
      injection ecs with c1 ecs
      injection ecs with c2 ecs
      injection ecs with c3 ecs
      injection ecs with c4 ecs
      injection ecs with c5 _
      injection c1 with _ c1; injection c2 with _ c2; injection c3 with c3 c3' _; injection c4 with c4 c4' _; injection c5 with c5 c5' _
      subst c1; subst c2; subst c3; subst c3'; subst c4; subst c4'; subst c5; subst c5'
      refine W.bS (o5.at0 (i := 2) rfl) (W.bI (o7.at0 (i := 1) rfl) (W.bS (o5.at0 (i := 3) rfl) (W.ifT ⟨by decide, by show (0 : Int) < (A.box.length : Int); omega⟩ (W.bs rfl (W.bI g0 (W.bI g1 (W.bT g2 (W.bS g3 (W.ifT ⟨hIn.1.1, by show x.a < (A.regs.length : Int); omega⟩ (W.bs rfl (W.bs w10 ?_)))))))))))
      have o5' : Own base 52 h10 (at0 h4.length) _ := o5.keep k10 fun i hi hk => by rw [blk_at0] at hi; omega
      have h10l : h10.length = h9.length := l10
      refine W.bS (o5'.at0 (i := 3) rfl) (W.ifT ⟨by decide, by show (1 : Int) ≤ (A.box.length : Int); omega, Int.le_refl _, hok _⟩ (W.wr0 o5' (by simp) (by simp) fun h11 o11 k11 l11 => W.inl ?_))
      have h11l : h11.length = h10.length := l11
      have k11 : KB (· = h4.length) h10 h11 := k11
      have e11 : A.box.length - 1 = B0.length := by rw [eB]; rfl
      refine ⟨h11, A.regs.set x.a.toNat t0, B0, acV A.pid A.pc (some aa) A.regs.length (shiftA (some bb) (1 * 4)) B0.length g4 A.links.length, iS h3.length h4.length, rfl, ?_, AcG.kp _ _ _ _ _ _ _ _ k11 (fun b hb hk => by omega) A10, ?_, fun b hb => .inl hb, KB.trans k10 k11 (fun b _ hb => .inl hb) (fun b _ hb => .inr hb)⟩
      · rw [hsF]
        unfold nextF
        rw [if_pos e4', eB]
        rfl
      · rw [← e11]
        exact o11
    · refine W.bI (o7.at0 (i := 0) rfl) (W.bs makes_run (W.bB rfl (W.ite (fun e5 => ?_) fun e5 => ?_)))
      · -- an instruction that makes something
        have hxb : x.b ≤ 7 := by
          rcases hIn.2.1.2 with e | e
          · exfalso
            unfold makesF at e5
            rw [e] at e5
            exact absurd e5 (by decide)
          · exact e
        have hR9 := r1.keep (TmG.kp _ _) k09 fun _ _ h => h
        refine qi o7 (W.bS (o1.at0 (i := 2) rfl) (W.bI (o1.at0 (i := 0) rfl) (W.wb (made_run (base := base) (h := h9) (pid := A.pid) (next := next) hR9 hR8 hIn hxb (by omega) m4 (fun b hb => by have := hS b (s1 b hb); have := k09.1; omega) (by have := k09.1; omega)) ?_)))
        rintro ⟨u, h10⟩ ⟨k', n', s', a', m', bo, rfl, k10, hm⟩
        have k10 : KB NoB h9 h10 := k10
        have n10 := k10.1
        refine W.bs (v := [Value.agg (termV k' n' s' a' m').toArray, Value.bool bo]) rfl (W.bs (v := termV k' n' s' a' m') rfl (W.bI rfl (W.bI rfl (W.bT rfl (W.bS rfl (W.bB rfl (W.nw (base := base) (h := h10) (by omega) rfl fun h11 o11 k11 q11 => ?_)))))))
        have k911 := kN k10 k11
        have k911' : KB NoB h9 h11 := k911
        have hsN : stepF (f + 2) x A next = match (match madeF x A.regs A.pid next with | none => none | some t => if tOk (f + 2) t = true then some (A.regs.set x.a.toNat t, A.box) else none) with | none => (A, fltA) | some (R, B) => (⟨A.pid, if jumpsF (f + 2) x A.regs = true then x.n else IntKind.wrap .i64 (A.pc + 1), R, B, A.links⟩, (actsF x A.regs next).1) := by
          rw [hsF]
          unfold nextF
          rw [if_neg e4', if_pos e5]
        have n09 := k09.1
        have o1 := o1.keepN k911
        have o7 := o7.keepN k911
        have o5' := o5.keepN k911
        cases hmF : madeF x A.regs A.pid next with
        | none =>
          rw [hmF] at hm
          subst hm
          have hN : nextF (f + 2) x A next = none := by unfold nextF; rw [if_neg e4', if_pos e5, hmF]
          rw [hN]
          refine W.joinP (fun q => q = ([some (.pointer (at0 h.length)), some (.pointer (at0 h1.length)), some (.pointer (at0 h2.length)), some (.pointer (at0 h4.length)), some (.pointer (at0 h6.length)), some (.pointer (at0 h8.length)), some (.pointer (at0 h10.length)), some (.bool true)], h11)) (W.ifT rfl (W.inl rfl)) fun q hq => ?_
          subst hq
          exact W.bA rfl (W.bA rfl (W.bA rfl (W.bA rfl (W.bA rfl (W.bA rfl (W.bA rfl (W.bB rfl (W.ifT rfl (W.q5 o5' (exF k911'))))))))))
        | some t =>
          rw [hmF] at hm hsN
          obtain ⟨rfl, ht⟩ := hm
          obtain ⟨h12, e12, k12⟩ := implTermOk_run (base := base) (h := h11) (TmR.keep k11 (fun _ _ h => h) _ _ _ ht) (by omega)
          have n12' := k12.1
          have k912 := kN k911' k12
          refine W.joinP (fun q => q = ([some (.pointer (at0 h.length)), some (.pointer (at0 h1.length)), some (.pointer (at0 h2.length)), some (.pointer (at0 h4.length)), some (.pointer (at0 h6.length)), some (.pointer (at0 h8.length)), some (.pointer (at0 h10.length)), some (.bool (!tOk (f + 2) t))], h12)) (W.ifF (by decide) (W.q4 o11 (W.bs e12 (W.bB rfl (W.inl rfl))))) fun q hq => ?_
          subst hq
          refine W.bA rfl (W.bA rfl (W.bA rfl (W.bA rfl (W.bA rfl (W.bA rfl (W.bA rfl (W.bB rfl (W.ite (fun e6' => ?_) fun e6' => ?_))))))))
          · have hN : nextF (f + 2) x A next = none := by
              unfold nextF
              rw [if_neg e4', if_pos e5, hmF]
              have : tOk (f + 2) t = false := by simpa using e6'
              simp [this]
            rw [hN]
            exact W.q5 (o5'.keepN k12) (exF k912)
          · have e6t : tOk (f + 2) t = true := by simpa using e6'
            obtain ⟨bt, _⟩ := tOk_B e6t
            have o7 := o7.keepN k12
            have o5' := o5'.keepN k12
            have ht12 := TmR.ltp _ _ _ (TmR.keep k12 (fun _ _ h => h) _ _ _ (TmR.keep k11 (fun _ _ h => h) _ _ _ ht))
            obtain ⟨cs13, h13, e13, t13, k13⟩ := copyTermG_run (base := base) (f + 2) h12 _ _ _ ht12 bt (by omega) (fun b hb => hb.2)
            obtain ⟨k'', n'', s'', a'', m'', rfl⟩ := t13.form
            have n13 := k13.1
            have A13 := AcG.kp _ _ _ _ _ _ _ _ (kN k912 k13) (fun _ _ h => h) A9
            obtain ⟨aa, h14, ec2, w14, A14, k14, l14⟩ := A13.setReg hxa t13 (fun b hb hb' => by omega)
            injection ec2 with ec2
            injection ec2 with ec2 ec3 _
            subst ec2; subst ec3
            refine W.bS (o5'.at0 (i := 2) rfl) (W.bI (o7.at0 (i := 1) rfl) (W.q4 (o11.keepN k12) (W.bs e13 (W.g4 (W.gt (same_keep k13 (o7.at0 (i := 1) rfl)) (W.gt (same_keep k13 (o5'.at0 (i := 2) rfl)) (W.ifT ⟨hIn.1.1, by show x.a < (A.regs.length : Int); omega⟩ (W.bs rfl (W.bs w14 (W.inl ?_))))))))))
            refine ⟨h14, A.regs.set x.a.toNat t, A.box, _, fun b => iS h3.length h4.length b ∨ iS h12.length h13.length b, rfl, ?_, A14, (o5'.keepN k13).keep k14 fun i hi hk => by rw [blk_at0] at hi; omega, fun b hb => ?_, KB.trans (kN k912 k13) k14 (fun _ _ h => h.elim) (fun b _ hb => .inl hb)⟩
            · rw [hsN]
              simp [e6t]
            · rcases hb with hb | hb
              · exact .inl hb
              · exact .inr (by omega)
      · refine W.inl ⟨h9, A.regs, A.box, acV p4 c4 a4 x4 b4 y4 g4 z4, iS h3.length h4.length, rfl, ?_, A9, o5, fun b hb => .inl hb, KB.refl _ _⟩
        rw [hsF]
        unfold nextF
        rw [if_neg e4', if_neg e5]
  · obtain ⟨hz, R, B, csz, Sz, rfl, hsF, hA, oz, hSz, kz⟩ := hq
    have nz := kz.1
    rw [show (if (!(actsF x A.regs next).2) = true then (A, fltA) else if (x.op == (19 : Int)) = true then (A, (actsF x A.regs next).1) else if (if (x.op == (14 : Int)) = true then ((A.box.length : Int) == (0 : Int)) else false) = true then (A, ⟨2, 0, 0, tmZ⟩) else match nextF (f + 2) x A next with | none => (A, fltA) | some (R, B) => (⟨A.pid, if jumpsF (f + 2) x A.regs = true then x.n else IntKind.wrap .i64 (A.pc + 1), R, B, A.links⟩, (actsF x A.regs next).1)) = stepF (f + 2) x A next from rfl, hsF]
    have hA' := hA
    obtain ⟨za, zb, zg, Z1, Z2, Z3, rfl, _⟩ := hA'
    have o1 := o1.keep kz fun i hi hk => by rw [blk_at0] at hi; omega
    have o7 := o7.keep kz fun i hi hk => by rw [blk_at0] at hi; omega
    have o9 := o9.keep kz fun i hi hk => by rw [blk_at0] at hi; omega
    have oR1 := oR1.keep kz fun i hi hk => by rw [blk_at0] at hi; omega
    have oR2 := oR2.keep kz fun i hi hk => by rw [blk_at0] at hi; omega
    have k0z : KB NoB h hz := kFresh k09 kz fun i hi => by omega
    refine W.bA rfl (W.bA rfl (W.bA rfl (W.bA rfl (W.bA rfl (W.bA rfl (W.bI (oz.at0 (i := 1) rfl) (W.wr0 oz (by simp) (by simp) fun ha oa ka la => ?_)))))))
    have la : ha.length = hz.length := la
    have ka : KB (· = h4.length) hz ha := ka
    have hRa := ((r1.keep (TmG.kp _ _) k0z fun _ _ h => h).keep (TmG.kp _ _) ka fun b hb hk => by have := hS b (s1 b hb); omega).tsG.le (show f + 1 ≤ f + 2 by omega)
    obtain ⟨hy0, ey0, ky0⟩ := jumps_run (base := base) (x := x) hRa hR8 hIn (by omega)
    have ny0 := ky0.1
    have o1 := o1.keepB ka fun i hi => by rw [blk_at0] at hi; omega
    have o7 := o7.keepB ka fun i hi => by rw [blk_at0] at hi; omega
    refine W.joinP (fun q => ∃ hy, q = ([some (.pointer (at0 h1.length)), some (.pointer (at0 h2.length)), some (.pointer (at0 h4.length)), some (.pointer (at0 h8.length))], hy) ∧ Own base 52 hy (at0 h4.length) (acV A.pid (if jumpsF (f + 2) x A.regs = true then x.n else IntKind.wrap .i64 (A.pc + 1)) za R.length zb B.length zg A.links.length) ∧ KB (· = h4.length) hz hy) ?_ fun q hq => ?_
    · refine qi o7 (W.bS (o1.at0 (i := 2) rfl) (W.bs ey0 (W.bB rfl (W.ite (fun e => ?_) fun e => ?_))))
      · rw [if_pos e]
        refine W.bI ((o7.keepN ky0).at0 (i := 4) rfl) (W.wr0 (oa.keepN ky0) (by simp [setAt]) (by simp) fun hc' oc kc lc => W.inl ⟨hc', rfl, oc, ?_⟩)
        exact KB.trans (KB.trans ka ky0 (fun _ _ h => h) (fun _ _ h => h.elim)) kc (fun _ _ h => h) (fun _ _ h => h)
      · rw [if_neg e]
        exact W.inl ⟨hy0, rfl, oa.keepN ky0, KB.trans ka ky0 (fun _ _ h => h) (fun _ _ h => h.elim)⟩
    obtain ⟨hy, rfl, oy, ky⟩ := hq
    have ny := ky.1
    have o9 := o9.keepB ky fun i hi => by rw [blk_at0] at hi; omega
    have oR1 := oR1.keepB ky fun i hi => by rw [blk_at0] at hi; omega
    have oR2 := oR2.keepB ky fun i hi => by rw [blk_at0] at hi; omega
    refine W.bA rfl (W.bA rfl (W.bA rfl (W.bA rfl (W.q5 oy (q7 o9 (W.wr0 oR1 (by simp) (by simp) fun hd od kd' ld => W.gt (same_KB kd' (show h8.length < hy.length by omega) (show ¬ (h8.length = h1.length) by omega)) (W.wr0 (oR2.keepB kd' fun i hi => n12 hi) (by simp) (by simp) fun hb ob kb lb => ?_)))))))
    have hAy := (AcG.kp _ _ _ _ _ _ _ _ ky (fun b hb hk => by have := hSz b hb; omega) hA).setPc (if jumpsF (f + 2) x A.regs = true then x.n else IntKind.wrap .i64 (A.pc + 1))
    exact ex od kd' ld ob kb lb (kFresh k0z ky fun i hi => by omega) (by show h6.length ≤ hy.length; omega) hAy (TmG.kp _ _ _ _ _ _ _ _ ky (fun b hb hk => by omega) (TmG.kp _ _ _ _ _ _ _ _ kz (fun b hb hk => by omega) t9)) (fun b hb hb' => by have := hSz b hb; omega) (fun b hb => by have := hSz b hb; show _ ∧ b < hy.length; omega) (fun b hb => by have := hT9 b hb; show _ ∧ b < hy.length; omega)
end Go.Proofs.Ytolcnednfbbnnaa.Am


set_option linter.unusedSimpArgs false
set_option linter.unusedVariables false
namespace Go.Proofs.Ytolcnednfbbnnaa.Am
open Go Go.RowKit

theorem specSame_run {base : Nat} : ∀ f, SameR base f 107
  | 0 => fun f2 h p p2 t u cs cs2 x => x.elim
  | f + 1 => fun f2 h p p2 t u cs cs2 x y hb => by
    cases f2 with
    | zero => exact y.elim
    | succ f2 =>
      obtain ⟨k, n, s, l⟩ := t
      obtain ⟨k', n', s', m⟩ := u
      obtain ⟨a, rfl, hts, _, hl⟩ := x.parts
      obtain ⟨a2, rfl, hts2, _, hl2⟩ := y.parts
      simp only [maxLen] at hl hl2
      refine Wp.run (P := fun h' => KB NoB h h') ?_
      refine W.of (fun r hx => r107 hx) ?_
      have d := Hs.start hb
      ((try simp only [n1, n2, n3, n4, n5, n6] at d); (with_reducible repeat first | refine W.a1 d ?_ | refine W.a2 ?_ | refine W.a3 ?_ | refine W.bo ?_ | refine W.a5 d fun hw d lw kw => ?_ | refine W.a6 d ?_ | refine W.a7 ?_ | refine W.a8 ?_); (refine W.nD d fun h1 d _ => ?_); (with_reducible repeat first | refine W.a1 d ?_ | refine W.a2 ?_ | refine W.a3 ?_ | refine W.bo ?_ | refine W.a5 d fun hw d lw kw => ?_ | refine W.a6 d ?_ | refine W.a7 ?_ | refine W.a8 ?_); (refine W.nD d fun h2 d _ => ?_); (with_reducible repeat first | refine W.a1 d ?_ | refine W.a2 ?_ | refine W.a3 ?_ | refine W.bo ?_ | refine W.a5 d fun hw d lw kw => ?_ | refine W.a6 d ?_ | refine W.a7 ?_ | refine W.a8 ?_))
      apply W.jb (if (k != k') = true then true else if (n != n') = true then true else if (!(s.toList == s'.toList)) = true then true else ((l.length : Int) != (m.length : Int))) d
      · ((try simp only [n1, n2, n3, n4, n5, n6] at d); (with_reducible repeat first | refine W.a1 d ?_ | refine W.a2 ?_ | refine W.a3 ?_ | refine W.bo ?_ | refine W.a5 d fun hw d lw kw => ?_ | refine W.a6 d ?_ | refine W.a7 ?_ | refine W.a8 ?_))
        refine W.ite (fun c => ?_) (fun c => ?_)
        · exact W.lb rfl (by rw [if_pos c]; rfl) (KB.refl _ _)
        rw [if_neg c]
        ((try simp only [n1, n2, n3, n4, n5, n6] at d); (with_reducible repeat first | refine W.a1 d ?_ | refine W.a2 ?_ | refine W.a3 ?_ | refine W.bo ?_ | refine W.a5 d fun hw d lw kw => ?_ | refine W.a6 d ?_ | refine W.a7 ?_ | refine W.a8 ?_))
        refine W.ite (fun c => ?_) (fun c => ?_)
        · exact W.lb rfl (by rw [if_pos c]; rfl) (KB.refl _ _)
        rw [if_neg c]
        ((try simp only [n1, n2, n3, n4, n5, n6] at d); (with_reducible repeat first | refine W.a1 d ?_ | refine W.a2 ?_ | refine W.a3 ?_ | refine W.bo ?_ | refine W.a5 d fun hw d lw kw => ?_ | refine W.a6 d ?_ | refine W.a7 ?_ | refine W.a8 ?_))
        refine W.ite (fun c => ?_) (fun c => ?_)
        · exact W.lb rfl (by rw [if_pos c]; rfl) (KB.refl _ _)
        rw [if_neg c]
        ((try simp only [n1, n2, n3, n4, n5, n6] at d); (with_reducible repeat first | refine W.a1 d ?_ | refine W.a2 ?_ | refine W.a3 ?_ | refine W.bo ?_ | refine W.a5 d fun hw d lw kw => ?_ | refine W.a6 d ?_ | refine W.a7 ?_ | refine W.a8 ?_))
        exact W.lb rfl rfl (KB.refl _ _)
      intro h3 d n3
      ((try simp only [n1, n2, n3, n4, n5, n6] at d); (with_reducible repeat first | refine W.a1 d ?_ | refine W.a2 ?_ | refine W.a3 ?_ | refine W.bo ?_ | refine W.a5 d fun hw d lw kw => ?_ | refine W.a6 d ?_ | refine W.a7 ?_ | refine W.a8 ?_))
      have hq : sameB (f + 1) (.mk k n s l) (.mk k' n' s' m) = (if (if (k != k') = true then true else if (n != n') = true then true else if (!(s.toList == s'.toList)) = true then true else ((l.length : Int) != (m.length : Int))) = true then false else sameLs (sameB f) l m) := by
        rw [sameB]
        by_cases c1 : (k != k') = true
        · rw [if_pos c1, if_pos c1]; rfl
        rw [if_neg c1, if_neg c1]
        by_cases c2 : (n != n') = true
        · rw [if_pos c2, if_pos c2]; rfl
        rw [if_neg c2, if_neg c2]
        by_cases c3 : (!(s.toList == s'.toList)) = true
        · rw [if_pos c3, if_pos c3]; rfl
        rw [if_neg c3, if_neg c3]
      rw [hq]
      refine W.ite (fun c => ?_) (fun c => ?_)
      · exact W.ret ⟨by rw [if_pos c], d.kb⟩
      · have hlm : l.length = m.length := by
          rcases Nat.decEq l.length m.length with hne | he
          · exfalso
            refine c ?_
            split
            · rfl
            split
            · rfl
            split
            · rfl
            · simp; omega
          · exact he
        rw [if_neg c]
        obtain ⟨h4, e4, k4⟩ := sameS_loop (base := base) (specSame_run f) (k := k) (n := n) (s := s) (k2 := k') (n2 := n') (s2 := s') (by omega) hlm l.length 0 h3 (by omega) (hts.keep d.kb fun _ _ h => h) (hts2.keep d.kb fun _ _ h => h) (d.ol (by (· repeat first | exact .head _ | apply List.Mem.tail))) (d.ol (by (· repeat first | exact .head _ | apply List.Mem.tail))) d.ge
        rw [List.drop_zero, List.drop_zero, show ((0 : Nat) : Int) = 0 from rfl] at e4
        refine W.bs e4 ?_
        have d := d.kN k4
        cases sameLs (sameB f) l m with
        | true => exact W.ifF (show ¬ (2 : Nat) = 1 by decide) (W.ifT rfl (W.ret ⟨rfl, d.kb⟩))
        | false => exact W.ifT rfl (W.bB rfl (W.ret ⟨rfl, d.kb⟩))
end Go.Proofs.Ytolcnednfbbnnaa.Am


set_option linter.unusedSimpArgs false
set_option linter.unusedVariables false
namespace Go.Proofs.Ytolcnednfbbnnaa.Am
open Go Go.RowKit

/-- What is made: none where it is at fault. -/
def MkQ (base F : Nat) (h : AH) (o : Option Tm) (r : Value × AH) : Prop :=
  ∃ k n s a m b, r.1 = .tuple #[.agg (termV k n s a m).toArray, .bool b] ∧ KB NoB h r.2 ∧ match o with
    | none => b = false
    | some t => b = true ∧ TmG base F (iS h.length r.2.length) r.2 t (termV k n s a m)
theorem MkQ.ok {base F : Nat} {h h' : AH} {k n : Int} {s : ByteArray} {a : Option Addr} {l : List Tm} {m : Nat} (kb : KB NoB h h') (x : TmG base F (iS h.length h'.length) h' (.mk k n s l) (termV k n s a m)) : MkQ base F h (some (.mk k n s l)) (.tuple #[.agg (termV k n s a m).toArray, .bool true], h') :=
  ⟨k, n, s, a, m, true, rfl, kb, rfl, x⟩
theorem MkQ.no {base F : Nat} {h h' : AH} {k n : Int} {s : ByteArray} {a : Option Addr} {m : Nat} (kb : KB NoB h h') : MkQ base F h none (.tuple #[.agg (termV k n s a m).toArray, .bool false], h') :=
  ⟨k, n, s, a, m, false, rfl, kb, rfl⟩
theorem tmL_G {base f : Nat} {S : Fp} {h : AH} {k n : Int} {s : ByteArray} (hs : s.size ≤ maxLen) : TmG base (f + 1) S h (.mk k n s []) (termV k n s none 0) := ⟨hs, by decide, none, rfl, RowO.nil⟩

theorem made6 {x : In} {R : List Tm} {pid next k n : Int} {s : ByteArray} {l : List Tm} (h : x.op = 6) (e : rg R x.b = .mk k n s l) : madeF x R pid next = if (if (k != (4 : Int)) = true then true else decide (x.n ≥ (l.length : Int))) = true then none else some (l.getD x.n.toNat tmZ) := by
  unfold madeF
  rw [if_neg (by simp [h]), if_neg (by simp [h]), if_neg (by simp [h]), if_neg (by simp [h]), if_neg (by simp [h]), if_neg (by simp [h]), if_pos (by simp [h]), e]
  rfl
theorem made7 {x : In} {R : List Tm} {pid next k n : Int} {s : ByteArray} {l : List Tm} (h : x.op = 7) (e : rg R x.b = .mk k n s l) : madeF x R pid next = if (if (k != (5 : Int)) = true then true else ((l.length : Int) == (0 : Int))) = true then none else some (l.getD 0 tmZ) := by
  unfold madeF
  rw [if_neg (by simp [h]), if_neg (by simp [h]), if_neg (by simp [h]), if_neg (by simp [h]), if_neg (by simp [h]), if_neg (by simp [h]), if_neg (by simp [h]), if_pos (by simp [h]), e]
  rfl
theorem made8 {x : In} {R : List Tm} {pid next k n : Int} {s : ByteArray} {l : List Tm} (h : x.op = 8) (e : rg R x.b = .mk k n s l) : madeF x R pid next = if (if (k != (5 : Int)) = true then true else ((l.length : Int) == (0 : Int))) = true then none else some (.mk 5 0 ⟨#[]⟩ (l.drop 1)) := by
  unfold madeF
  rw [if_neg (by simp [h]), if_neg (by simp [h]), if_neg (by simp [h]), if_neg (by simp [h]), if_neg (by simp [h]), if_neg (by simp [h]), if_neg (by simp [h]), if_neg (by simp [h]), if_pos (by simp [h]), e]
  rfl
theorem made9 {x : In} {R : List Tm} {pid next k n k2 n2 : Int} {s s2 : ByteArray} {l l2 : List Tm} (h : x.op = 9) (e : rg R x.b = .mk k n s l) (e2 : rg R x.c = .mk k2 n2 s2 l2) : madeF x R pid next = if (k == (1 : Int)) = true then (if (k2 == (1 : Int)) = true then some (.mk 1 (IntKind.wrap .i64 (n + n2)) ⟨#[]⟩ []) else none) else none := by
  unfold madeF
  rw [if_neg (by simp [h]), if_neg (by simp [h]), if_neg (by simp [h]), if_neg (by simp [h]), if_neg (by simp [h]), if_neg (by simp [h]), if_neg (by simp [h]), if_neg (by simp [h]), if_neg (by simp [h]), if_pos (by simp [h]), e, e2]
  rfl

theorem W.o4 {β : Type} {Q : β → Prop} {base t g : Nat} {S : Fp} {h : AH} {l : List Tm} {a : Option Addr} (hs : RowO base t 4 (TmG base (g + 1)) S h l a) {i : Nat} (hi : i < l.length) {f : Int → Int → ByteArray → Option Addr × Nat → Option β} (w : ∀ k n s a2 l2, l[i] = .mk k n s l2 → TmG base (g + 1) S h (.mk k n s l2) (termV k n s a2 l2.length) → RowO base 38 4 (TmG base g) S h l2 a2 → s.size ≤ maxLen → l2.length ≤ maxLen → Wp (f k n s (a2, l2.length)) Q) :
    Wp (a.bind fun ad => ((Am.cell h ad.block (ad.off + i * 4)).bind (getI .i64)).bind fun n1 => ((Am.cell h ad.block (ad.off + i * 4 + 1)).bind (getI .i64)).bind fun n2 => ((Am.cell h ad.block (ad.off + i * 4 + 1 + 1)).bind getStr).bind fun s3 => ((Am.cell h ad.block (ad.off + i * 4 + 1 + 1 + 1)).bind getS).bind fun l4 => f n1 n2 s3 l4) Q := by
  obtain ⟨ad, k, n, s, a2, m, C, rfl, _, g0, g1, g2, g3, hm, hC⟩ := hs.getG hi
  obtain ⟨l2, e, rfl, h1, h2, r⟩ := hm.parts
  refine W.bs rfl (W.bI g0 (W.bI g1 (W.bT g2 (W.bS g3 (w k n s a2 l2 e ?_ (r.mono hC) h1 h2)))))
  rw [← e]
  exact TmG.mo _ _ _ _ _ _ _ hC hm
theorem kpO {α : Type} {w base t : Nat} {P : Fp → AH → α → List Value → Prop} (kp : Kp P) {S : Fp} {l : List α} {a : Option Addr} : ∀ (U : Fp) (h h' : AH), KB U h h' → (∀ b, S b → ¬ U b) → RowO base t w P S h l a → RowO base t w P S h' l a := fun U h h' k hs x => x.keep kp k hs
theorem TmG.eq {base f : Nat} {S : Fp} {h : AH} {k n k' n' : Int} {s s' : ByteArray} {l : List Tm} {a : Option Addr} {m : Nat} (x : TmG base f S h (.mk k n s l) (termV k' n' s' a m)) : k = k' ∧ n = n' ∧ s = s' ∧ m = l.length := by
  cases f with
  | zero => exact x.elim
  | succ f =>
    obtain ⟨l2, e, hm, _⟩ := TmG.parts x
    injection e with t1 t2 t3 t4
    exact ⟨t1, t2, t3, by rw [hm, t4]⟩

theorem l9Part_run {base f : Nat} {h : AH} {S : Fp} {A : Ac} {cs : List Value} {x : In} {next : Int} (hA : AcG base (f + 1) S h A cs) (hn : A.regs.length = 8) (hx : InB x) (hxb : x.b ≤ 7) (hop : x.op = 6 ∨ x.op = 7 ∨ x.op = 8 ∨ x.op = 9) (hB : ∀ t ∈ A.regs, TmB (f + 1) t) (hS : ∀ b, S b → b < h.length) (hb : base ≤ h.length) :
    Wp (run (Et base) 133 [.agg (inV x).toArray, .agg cs.toArray] h) (MkQ base (f + 2) h (madeF x A.regs A.pid next)) := by
  obtain ⟨⟨a0, a7⟩, ⟨b0, _⟩, ⟨c0, c7⟩, hx4, hx6, hop0, hop1⟩ := hx
  obtain ⟨a, b, g, S1, S2, S3, rfl, hr, _, _, _, s1, _⟩ := hA
  have d := (Hs.start hb).inp S1 _ hr (kpO (TmG.kp _ _)) (fun b hb => hS b (s1 b hb)) (fun x hx => nomatch hx) rfl
  have hbl : x.b.toNat < A.regs.length := by omega
  have hcl : x.c.toNat < A.regs.length := by omega
  refine W.of (fun r hx => r133 hx) ?_
  ((try simp only [n1, n2, n3, n4, n5, n6] at d); (with_reducible repeat first | refine W.a1 d ?_ | refine W.a2 ?_ | refine W.a3 ?_ | refine W.bo ?_ | refine W.a5 d fun hw d lw kw => ?_ | refine W.a6 d ?_ | refine W.a7 ?_ | refine W.a8 ?_); (refine W.nD d fun h1 d _ => ?_); (with_reducible repeat first | refine W.a1 d ?_ | refine W.a2 ?_ | refine W.a3 ?_ | refine W.bo ?_ | refine W.a5 d fun hw d lw kw => ?_ | refine W.a6 d ?_ | refine W.a7 ?_ | refine W.a8 ?_); (refine W.nD d fun h2 d _ => ?_); (with_reducible repeat first | refine W.a1 d ?_ | refine W.a2 ?_ | refine W.a3 ?_ | refine W.bo ?_ | refine W.a5 d fun hw d lw kw => ?_ | refine W.a6 d ?_ | refine W.a7 ?_ | refine W.a8 ?_); (refine W.nD d fun h3 d _ => ?_); (with_reducible repeat first | refine W.a1 d ?_ | refine W.a2 ?_ | refine W.a3 ?_ | refine W.bo ?_ | refine W.a5 d fun hw d lw kw => ?_ | refine W.a6 d ?_ | refine W.a7 ?_ | refine W.a8 ?_))
  refine W.o4 (d.rs (i := 0) rfl) hbl fun kb nb sb ab lb eB tB rB hs1 hl1 => ?_
  have d := d.also (i := 0) rfl rfl _ rB (kpO (TmG.kp _ _))
  have eB' := rg_eq (R := A.regs) b0 hbl
  rw [eB] at eB'
  have hBb := hB _ (List.getElem_mem hbl)
  rw [eB] at hBb
  obtain ⟨B1, B2, B3⟩ := hBb
  ((try simp only [n1, n2, n3, n4, n5, n6] at d); (with_reducible repeat first | refine W.a1 d ?_ | refine W.a2 ?_ | refine W.a3 ?_ | refine W.bo ?_ | refine W.a5 d fun hw d lw kw => ?_ | refine W.a6 d ?_ | refine W.a7 ?_ | refine W.a8 ?_); (refine W.nD d fun h4 d _ => ?_); (with_reducible repeat first | refine W.a1 d ?_ | refine W.a2 ?_ | refine W.a3 ?_ | refine W.bo ?_ | refine W.a5 d fun hw d lw kw => ?_ | refine W.a6 d ?_ | refine W.a7 ?_ | refine W.a8 ?_))
  refine W.ite (fun c => ?_) (fun c7 => ?_)
  · rw [made6 (beq_iff_eq.1 c) eB']
    have e6 := hx6 (beq_iff_eq.1 c)
    apply W.jb (if (kb != (4 : Int)) = true then true else decide (x.n ≥ (lb.length : Int))) d
    · ((try simp only [n1, n2, n3, n4, n5, n6] at d); (with_reducible repeat first | refine W.a1 d ?_ | refine W.a2 ?_ | refine W.a3 ?_ | refine W.bo ?_ | refine W.a5 d fun hw d lw kw => ?_ | refine W.a6 d ?_ | refine W.a7 ?_ | refine W.a8 ?_))
      refine W.ite (fun c => ?_) (fun c => ?_)
      · exact W.lb rfl (by rw [if_pos c]; rfl) (KB.refl _ _)
      rw [if_neg c]
      ((try simp only [n1, n2, n3, n4, n5, n6] at d); (with_reducible repeat first | refine W.a1 d ?_ | refine W.a2 ?_ | refine W.a3 ?_ | refine W.bo ?_ | refine W.a5 d fun hw d lw kw => ?_ | refine W.a6 d ?_ | refine W.a7 ?_ | refine W.a8 ?_))
      exact W.lb rfl rfl (KB.refl _ _)
    intro h5 d n5
    ((try simp only [n1, n2, n3, n4, n5, n6] at d); (with_reducible repeat first | refine W.a1 d ?_ | refine W.a2 ?_ | refine W.a3 ?_ | refine W.bo ?_ | refine W.a5 d fun hw d lw kw => ?_ | refine W.a6 d ?_ | refine W.a7 ?_ | refine W.a8 ?_))
    refine W.ite (fun c => ?_) (fun c => ?_)
    · rw [if_pos c]
      ((try simp only [n1, n2, n3, n4, n5, n6] at d); (with_reducible repeat first | refine W.a1 d ?_ | refine W.a2 ?_ | refine W.a3 ?_ | refine W.bo ?_ | refine W.a5 d fun hw d lw kw => ?_ | refine W.a6 d ?_ | refine W.a7 ?_ | refine W.a8 ?_))
      exact W.ret (.no d.kb)
    · have hln : x.n.toNat < lb.length := by
        split at c
        · exact absurd rfl c
        · simp at c; omega
      rw [if_neg c]
      have cc : x.n < (lb.length : Int) := by omega
      ((try simp only [n1, n2, n3, n4, n5, n6] at d); (with_reducible repeat first | refine W.a1 d ?_ | refine W.a2 ?_ | refine W.a3 ?_ | refine W.bo ?_ | refine W.a5 d fun hw d lw kw => ?_ | refine W.a6 d ?_ | refine W.a7 ?_ | refine W.a8 ?_))
      cases f with
      | zero => exact ((B3 _ (List.getElem_mem hln)) : TmB 0 _).elim
      | succ f =>
      refine W.o4 (d.rs (i := 1) rfl) hln fun kc nc sc ac lc eC tC rC hs2 hl2 => ?_
      have hBc := B3 _ (List.getElem_mem hln)
      rw [eC] at hBc
      obtain ⟨cs2, h6, e6, t6, k6⟩ := l1CopyG_run (base := base) (f + 1) h5 S1 _ _ tC.tmR hBc d.ge (d.rlt (i := 1) rfl)
      obtain ⟨k', n', s', a', m', rfl⟩ := t6.form
      obtain ⟨rfl, rfl, rfl, rfl⟩ := t6.eq
      have d := d.callP (TmG.kp _ _) k6 t6
      refine W.bs e6 ?_
      ((try simp only [n1, n2, n3, n4, n5, n6] at d); (with_reducible repeat first | refine W.a1 d ?_ | refine W.a2 ?_ | refine W.a3 ?_ | refine W.bo ?_ | refine W.a5 d fun hw d lw kw => ?_ | refine W.a6 d ?_ | refine W.a7 ?_ | refine W.a8 ?_))
      have eD : lb.getD x.n.toNat tmZ = .mk kc nc sc lc := by simp [hln, eC]
      rw [eD]
      exact W.ret (.ok d.kb (TmG.le (by omega) (d.out (TmG.mo _ _) (i := 2) rfl)))
  apply W.jb (decide (x.op = 7 ∨ x.op = 8)) d
  · refine W.ite (fun c => ?_) (fun c => ?_)
    · exact W.lb rfl (by rw [c]; have := beq_iff_eq.1 c; simp [this]) (KB.refl _ _)
    · have c' : x.op ≠ 7 := by simpa using c
      exact W.lb rfl (by congr 3; simp [c']; rfl) (KB.refl _ _)
  intro h5 d n5
  ((try simp only [n1, n2, n3, n4, n5, n6] at d); (with_reducible repeat first | refine W.a1 d ?_ | refine W.a2 ?_ | refine W.a3 ?_ | refine W.bo ?_ | refine W.a5 d fun hw d lw kw => ?_ | refine W.a6 d ?_ | refine W.a7 ?_ | refine W.a8 ?_))
  have c7' : x.op ≠ 6 := by simpa using c7
  refine W.ite (fun c => ?_) (fun c => ?_)
  · have c78 := of_decide_eq_true c
    apply W.jb (if (kb != (5 : Int)) = true then true else ((lb.length : Int) == (0 : Int))) d
    · ((try simp only [n1, n2, n3, n4, n5, n6] at d); (with_reducible repeat first | refine W.a1 d ?_ | refine W.a2 ?_ | refine W.a3 ?_ | refine W.bo ?_ | refine W.a5 d fun hw d lw kw => ?_ | refine W.a6 d ?_ | refine W.a7 ?_ | refine W.a8 ?_))
      refine W.ite (fun c => ?_) (fun c => ?_)
      · exact W.lb rfl (by rw [if_pos c]; rfl) (KB.refl _ _)
      rw [if_neg c]
      ((try simp only [n1, n2, n3, n4, n5, n6] at d); (with_reducible repeat first | refine W.a1 d ?_ | refine W.a2 ?_ | refine W.a3 ?_ | refine W.bo ?_ | refine W.a5 d fun hw d lw kw => ?_ | refine W.a6 d ?_ | refine W.a7 ?_ | refine W.a8 ?_))
      exact W.lb rfl rfl (KB.refl _ _)
    intro h6 d n6
    ((try simp only [n1, n2, n3, n4, n5, n6] at d); (with_reducible repeat first | refine W.a1 d ?_ | refine W.a2 ?_ | refine W.a3 ?_ | refine W.bo ?_ | refine W.a5 d fun hw d lw kw => ?_ | refine W.a6 d ?_ | refine W.a7 ?_ | refine W.a8 ?_))
    refine W.ite (fun e => ?_) (fun e => ?_)
    · ((try simp only [n1, n2, n3, n4, n5, n6] at d); (with_reducible repeat first | refine W.a1 d ?_ | refine W.a2 ?_ | refine W.a3 ?_ | refine W.bo ?_ | refine W.a5 d fun hw d lw kw => ?_ | refine W.a6 d ?_ | refine W.a7 ?_ | refine W.a8 ?_))
      rcases c78 with c78 | c78
      · rw [made7 c78 eB', if_pos e]
        exact W.ret (.no d.kb)
      · rw [made8 c78 eB', if_pos e]
        exact W.ret (.no d.kb)
    · have hln : 0 < lb.length := by
        split at e
        · exact absurd rfl e
        · simp at e
          rcases Nat.eq_zero_or_pos lb.length with h | h
          · exact absurd (List.eq_nil_of_length_eq_zero h) e
          · exact h
      ((try simp only [n1, n2, n3, n4, n5, n6] at d); (with_reducible repeat first | refine W.a1 d ?_ | refine W.a2 ?_ | refine W.a3 ?_ | refine W.bo ?_ | refine W.a5 d fun hw d lw kw => ?_ | refine W.a6 d ?_ | refine W.a7 ?_ | refine W.a8 ?_))
      refine W.ite (fun c8 => ?_) (fun c8 => ?_)
      · rw [made7 (beq_iff_eq.1 c8) eB', if_neg e]
        have hln' : (0 : Int) < (lb.length : Int) := by omega
        ((try simp only [n1, n2, n3, n4, n5, n6] at d); (with_reducible repeat first | refine W.a1 d ?_ | refine W.a2 ?_ | refine W.a3 ?_ | refine W.bo ?_ | refine W.a5 d fun hw d lw kw => ?_ | refine W.a6 d ?_ | refine W.a7 ?_ | refine W.a8 ?_))
        cases f with
        | zero => exact ((B3 _ (List.getElem_mem hln)) : TmB 0 _).elim
        | succ f =>
        refine W.o4 (i := 0) (d.rs (i := 1) rfl) hln fun kc nc sc ac lc eC tC rC hs2 hl2 => ?_
        have hBc := B3 _ (List.getElem_mem hln)
        rw [eC] at hBc
        obtain ⟨cs2, h7, e7, t7, k7⟩ := l1CopyG_run (base := base) (f + 1) h6 S1 _ _ tC.tmR hBc d.ge (d.rlt (i := 1) rfl)
        obtain ⟨k', n', s', a', m', rfl⟩ := t7.form
        obtain ⟨rfl, rfl, rfl, rfl⟩ := t7.eq
        have d := d.callP (TmG.kp _ _) k7 t7
        refine W.bs e7 ?_
        ((try simp only [n1, n2, n3, n4, n5, n6] at d); (with_reducible repeat first | refine W.a1 d ?_ | refine W.a2 ?_ | refine W.a3 ?_ | refine W.bo ?_ | refine W.a5 d fun hw d lw kw => ?_ | refine W.a6 d ?_ | refine W.a7 ?_ | refine W.a8 ?_))
        have eD : lb.getD 0 tmZ = .mk kc nc sc lc := by simp [hln, eC]
        rw [eD]
        exact W.ret (.ok d.kb (TmG.le (by omega) (d.out (TmG.mo _ _) (i := 2) rfl)))
      · have c8' : x.op = 8 := c78.resolve_left fun h => c8 (by simp [h])
        rw [made8 c8' eB', if_neg e]
        ((try simp only [n1, n2, n3, n4, n5, n6] at d); (with_reducible repeat first | refine W.a1 d ?_ | refine W.a2 ?_ | refine W.a3 ?_ | refine W.bo ?_ | refine W.a5 d fun hw d lw kw => ?_ | refine W.a6 d ?_ | refine W.a7 ?_ | refine W.a8 ?_))
        refine W.ifT ⟨by decide, by show (1 : Int) ≤ (lb.length : Int); omega, Int.le_refl _, (d.rs (i := 1) rfl).tyOk _⟩ ?_
        have hR := (d.rs (i := 1) rfl).tsG.part (i := 1) (n := lb.length - 1) (by omega)
        have el : (lb.drop 1).take (lb.length - 1) = lb.drop 1 := List.take_of_length_le (by simp)
        rw [el] at hR
        have ln : (lb.drop 1).length = lb.length - 1 := by simp
        obtain ⟨a7', h7, e7, r7, k7⟩ := l9CopyTerms_run (base := base) (by omega) (fun t ht => B3 t (List.mem_of_mem_drop ht)) hR d.ge (d.rlt (i := 0) rfl)
        rw [ln] at e7
        have d := d.call k7 _ _ r7 (kpO (TmG.kp _ _)) (fun b hb => hb)
        refine W.bs e7 ?_
        ((try simp only [n1, n2, n3, n4, n5, n6] at d); (with_reducible repeat first | refine W.a1 d ?_ | refine W.a2 ?_ | refine W.a3 ?_ | refine W.bo ?_ | refine W.a5 d fun hw d lw kw => ?_ | refine W.a6 d ?_ | refine W.a7 ?_ | refine W.a8 ?_))
        have rr := d.rs (i := 2) rfl
        have r8 : RowO base 38 4 (TmG base f) (iS h.length _) _ _ _ := rr.mono fun b hb => ⟨(d.rfr (i := 2) rfl rfl b hb).resolve_left fun h => h, d.rlt (i := 2) rfl b hb⟩
        refine W.ret (.ok d.kb ⟨by decide, by simp [maxLen] at hl1 ⊢; omega, _, by rw [ln], r8.imp fun _ _ _ _ => TmG.le (by omega)⟩)
  · have c9 : x.op = 9 := by simp at c; omega
    ((try simp only [n1, n2, n3, n4, n5, n6] at d); (with_reducible repeat first | refine W.a1 d ?_ | refine W.a2 ?_ | refine W.a3 ?_ | refine W.bo ?_ | refine W.a5 d fun hw d lw kw => ?_ | refine W.a6 d ?_ | refine W.a7 ?_ | refine W.a8 ?_))
    refine W.o4 (d.rs (i := 0) rfl) hcl fun kc nc sc ac lc eC tC rC hs2 hl2 => ?_
    have eC' := rg_eq (R := A.regs) c0 hcl
    rw [eC] at eC'
    rw [made9 c9 eB' eC']
    ((try simp only [n1, n2, n3, n4, n5, n6] at d); (with_reducible repeat first | refine W.a1 d ?_ | refine W.a2 ?_ | refine W.a3 ?_ | refine W.bo ?_ | refine W.a5 d fun hw d lw kw => ?_ | refine W.a6 d ?_ | refine W.a7 ?_ | refine W.a8 ?_); (refine W.nD d fun h6 d _ => ?_); (with_reducible repeat first | refine W.a1 d ?_ | refine W.a2 ?_ | refine W.a3 ?_ | refine W.bo ?_ | refine W.a5 d fun hw d lw kw => ?_ | refine W.a6 d ?_ | refine W.a7 ?_ | refine W.a8 ?_))
    obtain ⟨h7, e7, k7⟩ := mkInt_run (base := base) (v := IntKind.wrap .i64 (nb + nc)) d.ge
    have d := d.kN k7
    refine W.bs e7 ?_
    ((try simp only [n1, n2, n3, n4, n5, n6] at d); (with_reducible repeat first | refine W.a1 d ?_ | refine W.a2 ?_ | refine W.a3 ?_ | refine W.bo ?_ | refine W.a5 d fun hw d lw kw => ?_ | refine W.a6 d ?_ | refine W.a7 ?_ | refine W.a8 ?_))
    refine W.ite (fun c1 => ?_) (fun c1 => ?_)
    · rw [if_pos c1]
      ((try simp only [n1, n2, n3, n4, n5, n6] at d); (with_reducible repeat first | refine W.a1 d ?_ | refine W.a2 ?_ | refine W.a3 ?_ | refine W.bo ?_ | refine W.a5 d fun hw d lw kw => ?_ | refine W.a6 d ?_ | refine W.a7 ?_ | refine W.a8 ?_))
      by_cases c2 : (kc == (1 : Int)) = true
      · rw [if_pos c2, c2]
        exact W.ret (.ok d.kb (tmL_G (by decide)))
      · have c2' : (kc == (1 : Int)) = false := by simpa using c2
        rw [if_neg c2, c2']
        exact W.ret (.no d.kb)
    · rw [if_neg c1]
      ((try simp only [n1, n2, n3, n4, n5, n6] at d); (with_reducible repeat first | refine W.a1 d ?_ | refine W.a2 ?_ | refine W.a3 ?_ | refine W.bo ?_ | refine W.a5 d fun hw d lw kw => ?_ | refine W.a6 d ?_ | refine W.a7 ?_ | refine W.a8 ?_))
      exact W.ret (.no d.kb)
end Go.Proofs.Ytolcnednfbbnnaa.Am


set_option linter.unusedSimpArgs false
set_option linter.unusedVariables false
namespace Go.Proofs.Ytolcnednfbbnnaa.Am
open Go Go.RowKit

section
variable {α : Type} {w : Nat} {P : Fp → AH → α → List Value → Prop}
theorem chunk_app_right {w n i : Nat} {vs cs : List Value} (hv : vs.length = n * w) (hi : n ≤ i) : chunk w i (vs ++ cs) = chunk w (i - n) cs := by
  have h := Nat.mul_le_mul_right w hi
  rw [chunk, chunk, List.drop_append, List.drop_eq_nil_of_le (by omega), List.nil_append, hv, Nat.sub_mul]
theorem Chunks.app {S C : Fp} {h : AH} {l l2 : List α} {vs vs2 : List Value} (x : Chunks w P S h l vs) (y : Chunks w P C h l2 vs2) (hv : vs.length = l.length * w) (hd : ∀ b, S b → ¬ C b) : Chunks w P (fun b => S b ∨ C b) h (l ++ l2) (vs ++ vs2) := by
  obtain ⟨A, a1, a2, a3⟩ := x
  obtain ⟨B, b1, b2, b3⟩ := y
  refine ⟨fun i => if i < l.length then A i else B (i - l.length), fun i b hb => ?_, fun i j b hij hi hj => ?_, fun i z hz => ?_⟩
  · simp only at hb
    split at hb
    · exact .inl (a1 _ b hb)
    · exact .inr (b1 _ b hb)
  · simp only at hi hj
    split at hi
    · split at hj
      · exact a2 _ _ b hij hi hj
      · exact hd b (a1 _ b hi) (b1 _ b hj)
    · split at hj
      · exact hd b (a1 _ b hj) (b1 _ b hi)
      · exact b2 _ _ b (by omega) hi hj
  · by_cases hi : i < l.length
    · rw [List.getElem?_append_left hi] at hz
      have hle := mul_le' (w := w) hi
      show P (if i < l.length then A i else B (i - l.length)) h z (chunk w i (vs ++ vs2))
      rw [if_pos hi, chunk_app_other (by omega)]
      exact a3 i z hz
    · rw [List.getElem?_append_right (by omega)] at hz
      show P (if i < l.length then A i else B (i - l.length)) h z (chunk w i (vs ++ vs2))
      rw [if_neg hi, chunk_app_right hv (by omega)]
      exact b3 _ z hz
theorem chunk_part {w i n q : Nat} {vs : List Value} (hq : q < n) : chunk w q ((vs.drop (i * w)).take (n * w)) = chunk w (i + q) vs := by
  have := mul_le' (w := w) hq
  rw [chunk, chunk, List.drop_take, List.drop_drop, List.take_take, Nat.add_mul]
  congr 1
  omega
theorem Chunks.part {S : Fp} {h : AH} {l : List α} {vs : List Value} (x : Chunks w P S h l vs) (i n : Nat) : Chunks w P S h ((l.drop i).take n) ((vs.drop (i * w)).take (n * w)) := by
  obtain ⟨A, a1, a2, a3⟩ := x
  refine ⟨fun q => A (i + q), fun q b hb => a1 _ b hb, fun q j b hq hb hb' => a2 _ _ b (by omega) hb hb', fun q z hz => ?_⟩
  have hq : q < n := by have := (List.getElem?_eq_some_iff.1 hz).1; simp at this; omega
  rw [List.getElem?_take_of_lt hq, List.getElem?_drop] at hz
  rw [chunk_part hq]
  exact a3 _ z hz
/-- A row behind a row. -/
theorem RowO.appR (kp : Kp P) {base t bytes : Nat} {S C : Fp} {h : AH} {l l2 : List α} {a a2 : Option Addr} (x : RowO base t w P S h l a) {vs2 : List Value} (hr : rawAt h a2 (l2.length * w) = some vs2) (hv2 : vs2.length = l2.length * w) (y : Chunks w P C h l2 vs2) (hw : 0 < w) (hC : ∀ b, C b → ¬ S b) (hCb : ∀ b, C b → b < h.length) (hSb : ∀ b, S b → b < h.length) (hb : base ≤ h.length) (h1 : (l.length + l2.length) * bytes ≤ 140737488355328) (h2 : l.length + l2.length ≤ 9223372036854775807) :
    ∃ a' h', Am.app base h t w bytes a l.length (rawAt h a2 (l2.length * w)) l2.length = some (.slice a' (l.length + l2.length) (l.length + l2.length), h') ∧ RowO base t w P (fun b => S b ∨ C b ∨ (h.length ≤ b ∧ b < h'.length)) h' (l ++ l2) a' ∧ KB (blk a) h h' := by
  obtain ⟨vs, T, x1, x2, x3, x4, x5⟩ := x
  obtain ⟨a', h', e, o, k, d⟩ := Own.app x1 (bytes := bytes) (m := l2.length) x2 hw hr hb h1 h2 hv2
  have cc := x5.app y x2 (fun b hb hc => hC b hc (x4 b hb))
  have cc' := cc.keep kp k fun b hb hk => by
    rcases hb with hb | hb
    · exact (x3 b hk).2 hb
    · exact hC b hb (x3 b hk).1
  refine ⟨a', h', e, ⟨vs ++ vs2, fun b => T b ∨ C b, o, by simp [x2, hv2, Nat.add_mul], fun b hb' => ?_, fun b hb' => hb'.elim (fun h => .inl (x4 b h)) (fun h => .inr (.inl h)), cc'⟩, k⟩
  rcases d with ⟨hm, rfl, rfl⟩ | d
  · refine ⟨.inl (x3 b hb').1, fun hh => ?_⟩
    rcases hh with hh | hh
    · exact (x3 b hb').2 hh
    · exact hC b hh (x3 b hb').1
  · have e1 := d b hb'
    have lt := (o.lt hb').2
    subst e1
    refine ⟨.inr (.inr ⟨Nat.le_refl _, lt⟩), fun hh => ?_⟩
    rcases hh with hh | hh
    · have := hSb _ (x4 _ hh); omega
    · have := hCb _ hh; omega
/-- The cells of a row, as they are read. -/
theorem RowO.raws {base t : Nat} {S : Fp} {h : AH} {l : List α} {a : Option Addr} (hlf : ∀ S h x cs, P S h x cs → cs.all leaf = true) (hw : 0 < w) (x : RowO base t w P S h l a) : ∃ vs T, rawAt h a (l.length * w) = some vs ∧ vs.length = l.length * w ∧ Sl h a vs ∧ (∀ b, T b → S b) ∧ (∀ b, blk a b → S b ∧ ¬ T b) ∧ Chunks w P T h l vs := by
  obtain ⟨vs, T, x1, x2, x3, x4, x5⟩ := x
  refine ⟨vs, T, ?_, x2, x1.sl, x4, x3, x5⟩
  rw [← x2]
  refine x1.sl.raw ?_
  obtain ⟨C, _, _, c3⟩ := x5
  rw [List.all_eq_true]
  intro v hv
  obtain ⟨q, hq, rfl⟩ := List.mem_iff_getElem.1 hv
  have hi : q / w < l.length := Nat.div_lt_of_lt_mul (by rw [Nat.mul_comm]; omega)
  have hm := hlf _ _ _ _ (c3 (q / w) _ (List.getElem?_eq_getElem hi))
  rw [List.all_eq_true] at hm
  have hmod : q % w < w := Nat.mod_lt _ hw
  have hdm : q / w * w + q % w = q := by rw [Nat.mul_comm]; exact Nat.div_add_mod q w
  refine hm _ (List.mem_iff_getElem?.2 ⟨q % w, ?_⟩)
  rw [chunk, List.getElem?_take_of_lt hmod, List.getElem?_drop, hdm, List.getElem?_eq_getElem hq]
end
end Go.Proofs.Ytolcnednfbbnnaa.Am


set_option linter.unusedSimpArgs false
set_option linter.unusedVariables false
namespace Go.Proofs.Ytolcnednfbbnnaa.Am
open Go Go.RowKit

theorem mkAtom_run {base : Nat} {h : AH} {s : ByteArray} (hb : base ≤ h.length) : ∃ h', run (Et base) 131 [.string s] h = some (.agg (termV 2 0 s none 0).toArray, h') ∧ KB NoB h h' := by
  refine Wp.run (P := fun h' => KB NoB h h') ?_
  refine W.of (fun r hx => r131 hx) ?_
  exact W.nw hb rfl fun h1 o1 k1 q1 => W.q4 o1 (W.ret ⟨rfl, k1⟩)

theorem l9Make_run {base f : Nat} {h : AH} {S : Fp} {A : Ac} {cs : List Value} {x : In} {next : Int} (hA : AcG base (f + 1) S h A cs) (hn : A.regs.length = 8) (hx : InB x) (hm : makesF x.op = true) (h14 : x.op ≠ 14) (hxs : x.s.size ≤ 1048576) (hB : ∀ t ∈ A.regs, TmB (f + 1) t) (hS : ∀ b, S b → b < h.length) (hb : base ≤ h.length) :
    Wp (run (Et base) 109 [.agg (inV x).toArray, .agg cs.toArray, .int .i64 next] h) (MkQ base (f + 2) h (madeF x A.regs A.pid next)) := by
  have hx' := hx
  have hA' := hA
  obtain ⟨⟨a0, a7⟩, ⟨b0, b7⟩, ⟨c0, c7⟩, hx4, hx6, hop0, hop1⟩ := hx
  obtain ⟨a, b, g, S1, S2, S3, rfl, hr, _, _, _, s1, _⟩ := hA
  have hxb : x.b ≤ 7 := b7.resolve_left fun e => by
    unfold makesF at hm
    rw [e] at hm
    exact absurd hm (by decide)
  have d := ((Hs.start hb).inp S1 _ hr (kpO (TmG.kp _ _)) (fun b hb => hS b (s1 b hb)) (fun x hx => nomatch hx) rfl).inp S _ hA' (fun U h h' k hs x => AcG.kp _ _ _ U h h' _ _ k hs x) hS (fun x hx => nomatch hx) rfl
  have hbl : x.b.toNat < A.regs.length := by omega
  have hcl : x.c.toNat < A.regs.length := by omega
  have leafB : ∀ {k n : Int} {s : ByteArray}, s.size ≤ 1048576 → TmB (f + 2) (.mk k n s []) := fun hs => ⟨hs, by decide, fun _ h => nomatch h⟩
  refine W.of (fun r hx => r109 hx) ?_
  ((try simp only [n1, n2, n3, n4, n5, n6] at d); (with_reducible repeat first | refine W.a1 d ?_ | refine W.a2 ?_ | refine W.a3 ?_ | refine W.bo ?_ | refine W.a5 d fun hw d lw kw => ?_ | refine W.a6 d ?_ | refine W.a7 ?_ | refine W.a8 ?_); (refine W.nD d fun h1 d _ => ?_); (with_reducible repeat first | refine W.a1 d ?_ | refine W.a2 ?_ | refine W.a3 ?_ | refine W.bo ?_ | refine W.a5 d fun hw d lw kw => ?_ | refine W.a6 d ?_ | refine W.a7 ?_ | refine W.a8 ?_); (refine W.nD d fun h2 d _ => ?_); (with_reducible repeat first | refine W.a1 d ?_ | refine W.a2 ?_ | refine W.a3 ?_ | refine W.bo ?_ | refine W.a5 d fun hw d lw kw => ?_ | refine W.a6 d ?_ | refine W.a7 ?_ | refine W.a8 ?_); (refine W.nD d fun h3 d _ => ?_); (with_reducible repeat first | refine W.a1 d ?_ | refine W.a2 ?_ | refine W.a3 ?_ | refine W.bo ?_ | refine W.a5 d fun hw d lw kw => ?_ | refine W.a6 d ?_ | refine W.a7 ?_ | refine W.a8 ?_))
  refine W.ite (fun c => ?_) (fun c1 => ?_)
  · ((try simp only [n1, n2, n3, n4, n5, n6] at d); (with_reducible repeat first | refine W.a1 d ?_ | refine W.a2 ?_ | refine W.a3 ?_ | refine W.bo ?_ | refine W.a5 d fun hw d lw kw => ?_ | refine W.a6 d ?_ | refine W.a7 ?_ | refine W.a8 ?_))
    obtain ⟨h4, e4, k4⟩ := mkInt_run (base := base) (v := x.n) d.ge
    have d := d.kN k4
    refine W.bs e4 ?_
    ((try simp only [n1, n2, n3, n4, n5, n6] at d); (with_reducible repeat first | refine W.a1 d ?_ | refine W.a2 ?_ | refine W.a3 ?_ | refine W.bo ?_ | refine W.a5 d fun hw d lw kw => ?_ | refine W.a6 d ?_ | refine W.a7 ?_ | refine W.a8 ?_))
    have em : madeF x A.regs A.pid next = some (.mk 1 x.n ⟨#[]⟩ []) := by unfold madeF; rw [if_pos c]
    rw [em]
    exact W.ret (.ok d.kb (tmL_G (by decide)))
  refine W.ite (fun c => ?_) (fun c2 => ?_)
  · ((try simp only [n1, n2, n3, n4, n5, n6] at d); (with_reducible repeat first | refine W.a1 d ?_ | refine W.a2 ?_ | refine W.a3 ?_ | refine W.bo ?_ | refine W.a5 d fun hw d lw kw => ?_ | refine W.a6 d ?_ | refine W.a7 ?_ | refine W.a8 ?_))
    obtain ⟨h4, e4, k4⟩ := mkAtom_run (base := base) (s := x.s) d.ge
    have d := d.kN k4
    refine W.bs e4 ?_
    ((try simp only [n1, n2, n3, n4, n5, n6] at d); (with_reducible repeat first | refine W.a1 d ?_ | refine W.a2 ?_ | refine W.a3 ?_ | refine W.bo ?_ | refine W.a5 d fun hw d lw kw => ?_ | refine W.a6 d ?_ | refine W.a7 ?_ | refine W.a8 ?_))
    have em : madeF x A.regs A.pid next = some (.mk 2 0 x.s []) := by unfold madeF; rw [if_neg c1, if_pos c]
    rw [em]
    exact W.ret (.ok d.kb (tmL_G (by simp only [maxLen]; omega)))
  refine W.ite (fun c => ?_) (fun c3 => ?_)
  · ((try simp only [n1, n2, n3, n4, n5, n6] at d); (with_reducible repeat first | refine W.a1 d ?_ | refine W.a2 ?_ | refine W.a3 ?_ | refine W.bo ?_ | refine W.a5 d fun hw d lw kw => ?_ | refine W.a6 d ?_ | refine W.a7 ?_ | refine W.a8 ?_))
    have em : madeF x A.regs A.pid next = some (.mk 5 0 ⟨#[]⟩ []) := by unfold madeF; rw [if_neg c1, if_neg c2, if_pos c]
    rw [em]
    exact W.ret (.ok d.kb (tmL_G (by decide)))
  refine W.ite (fun c => ?_) (fun c4 => ?_)
  · ((try simp only [n1, n2, n3, n4, n5, n6] at d); (with_reducible repeat first | refine W.a1 d ?_ | refine W.a2 ?_ | refine W.a3 ?_ | refine W.bo ?_ | refine W.a5 d fun hw d lw kw => ?_ | refine W.a6 d ?_ | refine W.a7 ?_ | refine W.a8 ?_))
    refine W.o4 (d.rs (i := 0) rfl) hbl fun kb nb sb ab lb eB tB rB hs1 hl1 => ?_
    have hBb := hB _ (List.getElem_mem hbl)
    rw [eB] at hBb
    obtain ⟨cs2, h6, e6, t6, k6⟩ := l1CopyG_run (base := base) (f + 1) h3 S1 _ _ tB.tmR hBb d.ge (d.rlt (i := 0) rfl)
    obtain ⟨k', n', s', a', m', rfl⟩ := t6.form
    obtain ⟨rfl, rfl, rfl, rfl⟩ := t6.eq
    have d := d.callP (TmG.kp _ _) k6 t6
    refine W.bs e6 ?_
    ((try simp only [n1, n2, n3, n4, n5, n6] at d); (with_reducible repeat first | refine W.a1 d ?_ | refine W.a2 ?_ | refine W.a3 ?_ | refine W.bo ?_ | refine W.a5 d fun hw d lw kw => ?_ | refine W.a6 d ?_ | refine W.a7 ?_ | refine W.a8 ?_))
    have em : madeF x A.regs A.pid next = some (rg A.regs x.b) := by unfold madeF; rw [if_neg c1, if_neg c2, if_neg c3, if_pos c]
    rw [em, rg_eq b0 hbl, eB]
    exact W.ret (.ok d.kb (TmG.le (by omega) (d.out (TmG.mo _ _) (i := 2) rfl)))
  refine W.ite (fun c => ?_) (fun c5 => ?_)
  · ((try simp only [n1, n2, n3, n4, n5, n6] at d); (with_reducible repeat first | refine W.a1 d ?_ | refine W.a2 ?_ | refine W.a3 ?_ | refine W.bo ?_ | refine W.a5 d fun hw d lw kw => ?_ | refine W.a6 d ?_ | refine W.a7 ?_ | refine W.a8 ?_))
    have h4' := hx4 (beq_iff_eq.1 c)
    have hw : IntKind.wrap .i64 (x.b + x.n) = x.b + x.n := w64i (by omega) (by omega)
    rw [hw]
    refine W.ifT ⟨b0, by omega, by show x.b + x.n ≤ (A.regs.length : Int); omega, (d.rs (i := 0) rfl).tyOk _⟩ ?_
    have ln : ((A.regs.drop x.b.toNat).take x.n.toNat).length = (x.b + x.n).toNat - x.b.toNat := by simp; omega
    have hR := (d.rs (i := 0) rfl).tsG.part (i := x.b.toNat) (n := x.n.toNat) (by omega)
    obtain ⟨a7', h7, e7, r7, k7⟩ := l9CopyTerms_run (base := base) (by omega) (fun t ht => hB t (List.mem_of_mem_drop (List.mem_of_mem_take ht))) hR d.ge (d.rlt (i := 0) rfl)
    rw [ln] at e7
    have d := d.call k7 _ _ r7 (kpO (TmG.kp _ _)) (fun b hb => hb)
    refine W.bs e7 ?_
    ((try simp only [n1, n2, n3, n4, n5, n6] at d); (with_reducible repeat first | refine W.a1 d ?_ | refine W.a2 ?_ | refine W.a3 ?_ | refine W.bo ?_ | refine W.a5 d fun hw d lw kw => ?_ | refine W.a6 d ?_ | refine W.a7 ?_ | refine W.a8 ?_))
    have em : madeF x A.regs A.pid next = some (.mk 4 0 ⟨#[]⟩ ((A.regs.drop x.b.toNat).take x.n.toNat)) := by unfold madeF; rw [if_neg c1, if_neg c2, if_neg c3, if_neg c4, if_pos c]
    rw [em]
    have rr := d.rs (i := 2) rfl
    have r8 : RowO base 38 4 (TmG base (f + 1)) (iS h.length _) _ _ _ := rr.mono fun b hb => ⟨(d.rfr (i := 2) rfl rfl b hb).resolve_left fun h => h, d.rlt (i := 2) rfl b hb⟩
    refine W.ret (.ok d.kb ⟨by decide, by simp [maxLen]; omega, _, by rw [ln], r8⟩)
  refine W.ite (fun c => ?_) (fun c6 => ?_)
  · ((try simp only [n1, n2, n3, n4, n5, n6] at d); (with_reducible repeat first | refine W.a1 d ?_ | refine W.a2 ?_ | refine W.a3 ?_ | refine W.bo ?_ | refine W.a5 d fun hw d lw kw => ?_ | refine W.a6 d ?_ | refine W.a7 ?_ | refine W.a8 ?_))
    refine W.o4 (d.rs (i := 0) rfl) hbl fun kb nb sb ab lb eB tB rB hs1 hl1 => ?_
    have hBb := hB _ (List.getElem_mem hbl)
    rw [eB] at hBb
    obtain ⟨cs2, h6, e6, t6, k6⟩ := l1CopyG_run (base := base) (f + 1) h3 S1 _ _ tB.tmR hBb d.ge (d.rlt (i := 0) rfl)
    obtain ⟨k', n', s', a', m', rfl⟩ := t6.form
    obtain ⟨rfl, rfl, rfl, rfl⟩ := t6.eq
    have d := d.callP (TmG.kp _ _) k6 t6
    refine W.bs e6 ?_
    ((try simp only [n1, n2, n3, n4, n5, n6] at d); (with_reducible repeat first | refine W.a1 d ?_ | refine W.a2 ?_ | refine W.a3 ?_ | refine W.bo ?_ | refine W.a5 d fun hw d lw kw => ?_ | refine W.a6 d ?_ | refine W.a7 ?_ | refine W.a8 ?_))
    obtain ⟨ad, kc, nc, sc, ac, mc, CC, rfl, hbk, g0, g1, g2, g3, hmC, hCC⟩ := (d.rs (i := 0) rfl).getG hcl
    obtain ⟨lc, eC, rfl, hs2, hl2, rC⟩ := hmC.parts
    have hBc := hB _ (List.getElem_mem hcl)
    rw [eC] at hBc
    have hbS : ad.block < h.length := by
      obtain ⟨vs, T, w1, w2, w3, _⟩ := hr
      exact hS _ (s1 _ (w3 _ ⟨ad, rfl, rfl⟩).1)
    refine W.bs rfl (W.gt (same_KB k6 (by omega) (fun h => h)) (W.bS g3 ?_))
    have n6 := k6.1
    obtain ⟨a7', h7, e7, r7, k7⟩ := l9CopyTerms_run (base := base) hBc.2.1 hBc.2.2 (rC.mono hCC).tsG d.ge (d.rlt (i := 0) rfl)
    have n7 := k7.1
    have d := d.call k7 _ _ r7 (kpO (TmG.kp _ _)) (fun b hb => hb)
    refine W.bs e7 ?_
    ((try simp only [n1, n2, n3, n4, n5, n6] at d); (with_reducible repeat first | refine W.a1 d ?_ | refine W.a2 ?_ | refine W.a3 ?_ | refine W.bo ?_ | refine W.a5 d fun hw d lw kw => ?_ | refine W.a6 d ?_ | refine W.a7 ?_ | refine W.a8 ?_))
    refine W.gt (ne_A (n := h7.length) (by omega)) ?_
    ((try simp only [n1, n2, n3, n4, n5, n6] at d); (with_reducible repeat first | refine W.a1 d ?_ | refine W.a2 ?_ | refine W.a3 ?_ | refine W.bo ?_ | refine W.a5 d fun hw d lw kw => ?_ | refine W.a6 d ?_ | refine W.a7 ?_ | refine W.a8 ?_); (refine W.nD d fun h8 d _ => ?_); (with_reducible repeat first | refine W.a1 d ?_ | refine W.a2 ?_ | refine W.a3 ?_ | refine W.bo ?_ | refine W.a5 d fun hw d lw kw => ?_ | refine W.a6 d ?_ | refine W.a7 ?_ | refine W.a8 ?_))
    have d := d.unbox .here
    have t2 : TmG base (f + 1) (iS h3.length h6.length) h8 _ _ := d.rs (i := 2) rfl
    have t4 : Own base 38 h8 (at0 h7.length) _ := d.rs (i := 4) rfl
    have one := RowO.one (w := 4) t2 (fun hb => by omega) rfl t4
    have d := d.joinO (TmG.kp _ _) (Upd.at (i := 2) rfl) (Upd.at (i := 4) rfl) rfl rfl (KB.refl NoB _) one (fun _ h => h.elim) (fun b hb => hb.elim (fun h => .inr (.inl h)) .inl)
    have t3 : RowO base 38 4 (TmG base f) _ h8 _ _ := d.rs (i := 3) rfl
    obtain ⟨vs2, T2, er, ev, _, hT2, _, ch2⟩ := RowO.raws (w := 4) (fun S h x cs y => by obtain ⟨_, _, _, _, _, rfl⟩ := TmG.form y; rfl) (by decide) t3
    have one' : RowO base 38 4 (TmG base (f + 1)) _ h8 _ _ := d.rs (i := 4) rfl
    obtain ⟨a9, h9, e9, r9, k9⟩ := one'.appR (TmG.kp _ _) (bytes := 56) er ev (ch2.imp fun _ _ _ _ => TmG.le (by omega)) (by decide) (fun b hb hb' => by have := hT2 b hb; omega) (fun b hb => d.rlt (i := 3) rfl b (hT2 b hb)) (fun b hb => d.rlt (i := 4) rfl b hb) d.ge (by have := hBc.2.1; simp; omega) (by have := hBc.2.1; simp; omega)
    have n9 := k9.1
    have d := d.joinO (TmG.kp _ _) (Upd.at (i := 3) rfl) (Upd.at (i := 4) rfl) rfl rfl k9 r9 (fun b hb => .inl (by obtain ⟨vs, T, _, _, w3, _⟩ := one'; exact (w3 b hb).1)) (fun b hb => by
      rcases hb with hb | hb | hb
      · exact .inl hb
      · exact .inr (.inl (hT2 b hb))
      · exact .inr (.inr hb))
    refine W.bs e9 ?_
    ((try simp only [n1, n2, n3, n4, n5, n6] at d); (with_reducible repeat first | refine W.a1 d ?_ | refine W.a2 ?_ | refine W.a3 ?_ | refine W.bo ?_ | refine W.a5 d fun hw d lw kw => ?_ | refine W.a6 d ?_ | refine W.a7 ?_ | refine W.a8 ?_))
    obtain ⟨ad2, kc2, nc2, sc2, ac2, mc2, CC2, ead, hbk2, g02, _, _, _, hmC2, hCC2⟩ := (d.rs (i := 0) rfl).getG hcl
    injection ead with ead
    subst ead
    rw [eC] at hmC2
    obtain ⟨rfl, rfl, rfl, rfl⟩ := hmC2.eq
    refine W.bI g02 ?_
    ((try simp only [n1, n2, n3, n4, n5, n6] at d); (with_reducible repeat first | refine W.a1 d ?_ | refine W.a2 ?_ | refine W.a3 ?_ | refine W.bo ?_ | refine W.a5 d fun hw d lw kw => ?_ | refine W.a6 d ?_ | refine W.a7 ?_ | refine W.a8 ?_))
    refine W.gt (same_KB kw (by omega) (by show ¬ (ad.block = h2.length); omega)) ?_
    ((try simp only [n1, n2, n3, n4, n5, n6] at d); (with_reducible repeat first | refine W.a1 d ?_ | refine W.a2 ?_ | refine W.a3 ?_ | refine W.bo ?_ | refine W.a5 d fun hw d lw kw => ?_ | refine W.a6 d ?_ | refine W.a7 ?_ | refine W.a8 ?_))
    have em : madeF x A.regs A.pid next = (if (kc == (5 : Int)) = true then some (.mk 5 0 ⟨#[]⟩ (rg A.regs x.b :: lc)) else none) := by
      unfold madeF
      rw [if_neg c1, if_neg c2, if_neg c3, if_neg c4, if_neg c5, if_pos c, rg_eq c0 hcl, eC]
      rfl
    rw [em, rg_eq b0 hbl, eB]
    have rr := d.rs (i := 4) rfl
    have r10 : RowO base 38 4 (TmG base (f + 1)) (iS h.length _) _ _ _ := rr.mono fun b hb => ⟨(d.rfr (i := 4) rfl rfl b hb).resolve_left fun h => h, d.rlt (i := 4) rfl b hb⟩
    have hlc := hBc.2.1
    have hg : TmG base (f + 2) (iS h.length _) _ (.mk 5 0 ⟨#[]⟩ (.mk kb nb sb lb :: lc)) (termV 5 0 ⟨#[]⟩ a9 (1 + lc.length)) := ⟨by decide, by simp [maxLen]; omega, a9, by simp; omega, r10⟩
    by_cases c9 : (kc == (5 : Int)) = true
    · rw [if_pos c9, c9]
      exact W.ret (.ok d.kb hg)
    · have c9' : (kc == (5 : Int)) = false := by simpa using c9
      rw [if_neg c9, c9']
      exact W.ret (.no d.kb)
  refine W.ite (fun c => ?_) (fun c7' => ?_)
  · ((try simp only [n1, n2, n3, n4, n5, n6] at d); (with_reducible repeat first | refine W.a1 d ?_ | refine W.a2 ?_ | refine W.a3 ?_ | refine W.bo ?_ | refine W.a5 d fun hw d lw kw => ?_ | refine W.a6 d ?_ | refine W.a7 ?_ | refine W.a8 ?_))
    obtain ⟨h4, e4, k4⟩ := mkPid_run (base := base) (v := A.pid) d.ge
    have d := d.kN k4
    refine W.bs e4 ?_
    ((try simp only [n1, n2, n3, n4, n5, n6] at d); (with_reducible repeat first | refine W.a1 d ?_ | refine W.a2 ?_ | refine W.a3 ?_ | refine W.bo ?_ | refine W.a5 d fun hw d lw kw => ?_ | refine W.a6 d ?_ | refine W.a7 ?_ | refine W.a8 ?_))
    have e15 := beq_iff_eq.1 c
    have em : madeF x A.regs A.pid next = some (.mk 3 A.pid ⟨#[]⟩ []) := by unfold madeF; simp [e15]
    rw [em]
    exact W.ret (.ok d.kb (tmL_G (by decide)))
  refine W.ite (fun c => ?_) (fun c8 => ?_)
  · obtain ⟨h4, e4, k4⟩ := mkPid_run (base := base) (v := next) d.ge
    have d := d.kN k4
    refine W.bs e4 ?_
    ((try simp only [n1, n2, n3, n4, n5, n6] at d); (with_reducible repeat first | refine W.a1 d ?_ | refine W.a2 ?_ | refine W.a3 ?_ | refine W.bo ?_ | refine W.a5 d fun hw d lw kw => ?_ | refine W.a6 d ?_ | refine W.a7 ?_ | refine W.a8 ?_))
    have e16 := beq_iff_eq.1 c
    have em : madeF x A.regs A.pid next = some (.mk 3 next ⟨#[]⟩ []) := by unfold madeF; simp [e16]
    rw [em]
    exact W.ret (.ok d.kb (tmL_G (by decide)))
  · ((try simp only [n1, n2, n3, n4, n5, n6] at d); (with_reducible repeat first | refine W.a1 d ?_ | refine W.a2 ?_ | refine W.a3 ?_ | refine W.bo ?_ | refine W.a5 d fun hw d lw kw => ?_ | refine W.a6 d ?_ | refine W.a7 ?_ | refine W.a8 ?_))
    have hop : x.op = 6 ∨ x.op = 7 ∨ x.op = 8 ∨ x.op = 9 := by
      simp at c1 c2 c3 c4 c5 c6 c7' c8
      unfold makesF at hm
      have h10 : x.op ≠ 10 := fun e => by rw [e] at hm; exact absurd hm (by decide)
      have h11 : x.op ≠ 11 := fun e => by rw [e] at hm; exact absurd hm (by decide)
      have h12 : x.op ≠ 12 := fun e => by rw [e] at hm; exact absurd hm (by decide)
      have h13 : x.op ≠ 13 := fun e => by rw [e] at hm; exact absurd hm (by decide)
      have h17 : x.op ≠ 17 := fun e => by rw [e] at hm; exact absurd hm (by decide)
      have h18 : x.op ≠ 18 := fun e => by rw [e] at hm; exact absurd hm (by decide)
      have h19 : x.op ≠ 19 := fun e => by rw [e] at hm; exact absurd hm (by decide)
      omega
    refine W.wb (l9Part_run (next := next) (d.rs (i := 1) rfl) hn hx' hxb hop hB (d.rlt (i := 1) rfl) d.ge) ?_
    rintro ⟨u, h5⟩ ⟨k, n, s, a', m, bo, rfl, k5, q5⟩
    generalize madeF x A.regs A.pid next = o at q5
    cases o with
    | none =>
      have d := d.kN k5
      have q5 : bo = false := q5
      subst q5
      ((try simp only [n1, n2, n3, n4, n5, n6] at d); (with_reducible repeat first | refine W.a1 d ?_ | refine W.a2 ?_ | refine W.a3 ?_ | refine W.bo ?_ | refine W.a5 d fun hw d lw kw => ?_ | refine W.a6 d ?_ | refine W.a7 ?_ | refine W.a8 ?_))
      exact W.ret (.no d.kb)
    | some t =>
      obtain ⟨rfl, t5⟩ := q5
      have d := d.callP (TmG.kp _ _) k5 t5
      ((try simp only [n1, n2, n3, n4, n5, n6] at d); (with_reducible repeat first | refine W.a1 d ?_ | refine W.a2 ?_ | refine W.a3 ?_ | refine W.bo ?_ | refine W.a5 d fun hw d lw kw => ?_ | refine W.a6 d ?_ | refine W.a7 ?_ | refine W.a8 ?_))
      exact W.ret ⟨k, n, s, a', m, true, rfl, d.kb, rfl, d.out (TmG.mo _ _) (i := 2) rfl⟩
end Go.Proofs.Ytolcnednfbbnnaa.Am


set_option linter.unusedSimpArgs false
set_option linter.unusedVariables false
namespace Go.Proofs.Ytolcnednfbbnnaa.Am
open Go Go.RowKit

theorem W.il {β γ : Type} {Q : β → Prop} {k : γ → Option β} {q : γ} (w : Wp (k q) Q) : Wp (some (Sum.inl q : Sum γ β)) (Sum.elim (fun q => Wp (k q) Q) Q) := W.inl w
/-- An instruction is read. -/
theorem W.i6 {β : Type} {Q : β → Prop} {h : AH} {c : Option Addr} {l : List In} (hc : Sl h c (insR l)) {i : Nat} (hi : i < l.length) {f : Int → Int → Int → Int → Int → ByteArray → Option β} (w : Wp (f l[i].op l[i].a l[i].b l[i].c l[i].n l[i].s) Q) :
    Wp (c.bind fun ad => ((Am.cell h ad.block (ad.off + i * 6)).bind (getI .i64)).bind fun n1 => ((Am.cell h ad.block (ad.off + i * 6 + 1)).bind (getI .i64)).bind fun n2 => ((Am.cell h ad.block (ad.off + i * 6 + 1 + 1)).bind (getI .i64)).bind fun n3 => ((Am.cell h ad.block (ad.off + i * 6 + 1 + 1 + 1)).bind (getI .i64)).bind fun n4 => ((Am.cell h ad.block (ad.off + i * 6 + 1 + 1 + 1 + 1)).bind (getI .i64)).bind fun n5 => ((Am.cell h ad.block (ad.off + i * 6 + 1 + 1 + 1 + 1 + 1)).bind getStr).bind fun s6 => f n1 n2 n3 n4 n5 s6) Q := by
  obtain ⟨cd, rfl, w0, w1, w2, w3, w4, w5⟩ := In.get hc hi
  exact W.bs rfl (W.bI w0 (W.bI w1 (W.bI w2 (W.bI w3 (W.bI w4 (W.bT w5 w))))))
theorem AcG.form2 {base f : Nat} {S : Fp} {h : AH} {A : Ac} {cs : List Value} (x : AcG base f S h A cs) : ∃ a b g, cs = acV A.pid A.pc a A.regs.length b A.box.length g A.links.length := by
  obtain ⟨a, b, g, S1, S2, S3, e, _⟩ := x
  exact ⟨a, b, g, e⟩
theorem StepQ.of {base F : Nat} {h0 h : AH} {D : Ds} {R : List Rs} {A : Ac} {cs : List Value} {S1 T : Fp} {AA : AH → Prop} {kd pid pc k n : Int} {s : ByteArray} {a : Option Addr} {m : Nat} {t : Tm} (d : Hs base NoB h0 h D R) {i : Nat} (e : R[i]? = some ⟨S1, true, AA⟩) (hA : AcG base F S1 h A cs) (ht : TmG base F T h t (termV k n s a m)) (hd : ∀ b, S1 b → ¬ T b) (hT : ∀ b, T b → h0.length ≤ b ∧ b < h.length) : StepQ base F h0 (A, ⟨kd, pid, pc, t⟩) (.tuple #[.agg cs.toArray, .agg (actV kd pid pc k n s a m).toArray], h) :=
  ⟨cs, k, n, s, a, m, S1, T, rfl, hA, ht, hd, fun b hb => ⟨(d.rfr e rfl b hb).resolve_left fun h => h, d.rlt e b hb⟩, hT, d.kb⟩
theorem l9Fault_run {base : Nat} {h : AH} {p c : Int} {a b g : Option Addr} {x y z : Nat} (hb : base ≤ h.length) : ∃ h', run (Et base) 108 [.agg (acV p c a x b y g z).toArray] h = some (.tuple #[.agg (acV p c a x b y g z).toArray, .agg (actV 7 0 0 2 0 flt none 0).toArray], h') ∧ KB NoB h h' := by
  refine Wp.run (P := fun h' => KB NoB h h') ?_
  refine W.of (fun r hx => r108 hx) ?_
  have d := Hs.start hb
  ((try simp only [n1, n2, n3, n4, n5, n6] at d); (with_reducible repeat first | refine W.a1 d ?_ | refine W.a2 ?_ | refine W.a3 ?_ | refine W.bo ?_ | refine W.a5 d fun hw d lw kw => ?_ | refine W.a6 d ?_ | refine W.a7 ?_ | refine W.a8 ?_); (refine W.nD d fun h1 d _ => ?_); (with_reducible repeat first | refine W.a1 d ?_ | refine W.a2 ?_ | refine W.a3 ?_ | refine W.bo ?_ | refine W.a5 d fun hw d lw kw => ?_ | refine W.a6 d ?_ | refine W.a7 ?_ | refine W.a8 ?_); (refine W.nD d fun h2 d _ => ?_); (with_reducible repeat first | refine W.a1 d ?_ | refine W.a2 ?_ | refine W.a3 ?_ | refine W.bo ?_ | refine W.a5 d fun hw d lw kw => ?_ | refine W.a6 d ?_ | refine W.a7 ?_ | refine W.a8 ?_); (refine W.nD d fun h3 d _ => ?_); (with_reducible repeat first | refine W.a1 d ?_ | refine W.a2 ?_ | refine W.a3 ?_ | refine W.bo ?_ | refine W.a5 d fun hw d lw kw => ?_ | refine W.a6 d ?_ | refine W.a7 ?_ | refine W.a8 ?_))
  obtain ⟨h4, e4, k4⟩ := mkAtom_run (base := base) (s := flt) d.ge
  have d := d.kN k4
  refine W.bs e4 ?_
  ((try simp only [n1, n2, n3, n4, n5, n6] at d); (with_reducible repeat first | refine W.a1 d ?_ | refine W.a2 ?_ | refine W.a3 ?_ | refine W.bo ?_ | refine W.a5 d fun hw d lw kw => ?_ | refine W.a6 d ?_ | refine W.a7 ?_ | refine W.a8 ?_))
  exact W.ret ⟨rfl, d.kb⟩

theorem l9Step_run {base f : Nat} {h : AH} {S : Fp} {l : List In} {c : Option Addr} {A : Ac} {cs : List Value} {next : Int} (hc : Sl h c (insR l)) (hBA : AcB (f + 1) A) (x : AcG base (f + 1) S h A cs) (hS : ∀ b, S b → b < h.length) (hb : base ≤ h.length) (hok : acOk (f + 1) l A = true) :
    Wp (run (Et base) 63 [.slice c l.length l.length, .agg cs.toArray, .int .i64 next] h) (StepQ base (f + 2) h (stepF (f + 2) (l.getD A.pc.toNat in0) A next)) := by
  obtain ⟨hcode, ⟨pc0, pcl⟩, hR8, htR, hbx, htB⟩ := acOk_parts hok
  have hpc : A.pc.toNat < l.length := by omega
  have hIn := codeOk_bd hcode _ (List.getElem_mem hpc)
  have hsz := (codeOk_spec hcode).2.2 _ (List.getElem_mem hpc)
  have el : l.getD A.pc.toNat in0 = l[A.pc.toNat] := by simp [hpc]
  rw [el]
  have hBA' := hBA
  obtain ⟨m1, m2, m3, m4, m5⟩ := hBA
  have x' := x
  obtain ⟨a, b, g, S1, S2, S3, rfl, hr, _, _, _, s1, _⟩ := x
  have d := ((Hs.start hb).inp S _ x' (fun U h h' k hs x => AcG.kp _ _ _ U h h' _ _ k hs x) hS (fun x hx => nomatch hx) rfl).inp S1 _ hr (kpO (TmG.kp _ _)) (fun b hb => hS b (s1 b hb)) (fun x hx => nomatch hx) rfl
  refine W.of (fun r hx => r63 hx) ?_
  ((try simp only [n1, n2, n3, n4, n5, n6] at d); (with_reducible repeat first | refine W.a1 d ?_ | refine W.a2 ?_ | refine W.a3 ?_ | refine W.bo ?_ | refine W.a5 d fun hw d lw kw => ?_ | refine W.a6 d ?_ | refine W.a7 ?_ | refine W.a8 ?_); (refine W.nD d fun h1 d _ => ?_); (with_reducible repeat first | refine W.a1 d ?_ | refine W.a2 ?_ | refine W.a3 ?_ | refine W.bo ?_ | refine W.a5 d fun hw d lw kw => ?_ | refine W.a6 d ?_ | refine W.a7 ?_ | refine W.a8 ?_); (refine W.nD d fun h2 d _ => ?_); (with_reducible repeat first | refine W.a1 d ?_ | refine W.a2 ?_ | refine W.a3 ?_ | refine W.bo ?_ | refine W.a5 d fun hw d lw kw => ?_ | refine W.a6 d ?_ | refine W.a7 ?_ | refine W.a8 ?_); (refine W.nD d fun h3 d _ => ?_); (with_reducible repeat first | refine W.a1 d ?_ | refine W.a2 ?_ | refine W.a3 ?_ | refine W.bo ?_ | refine W.a5 d fun hw d lw kw => ?_ | refine W.a6 d ?_ | refine W.a7 ?_ | refine W.a8 ?_))
  refine W.i6 (hc.keepN d.kb) hpc ?_
  generalize l[A.pc.toNat] = x at hIn hsz
  ((try simp only [n1, n2, n3, n4, n5, n6] at d); (with_reducible repeat first | refine W.a1 d ?_ | refine W.a2 ?_ | refine W.a3 ?_ | refine W.bo ?_ | refine W.a5 d fun hw d lw kw => ?_ | refine W.a6 d ?_ | refine W.a7 ?_ | refine W.a8 ?_); (refine W.nD d fun h4 d _ => ?_); (with_reducible repeat first | refine W.a1 d ?_ | refine W.a2 ?_ | refine W.a3 ?_ | refine W.bo ?_ | refine W.a5 d fun hw d lw kw => ?_ | refine W.a6 d ?_ | refine W.a7 ?_ | refine W.a8 ?_))
  obtain ⟨csO, h5, e5, AO, k5⟩ := l9Copy_run (base := base) hBA' (d.rs (i := 0) rfl).acR d.ge (d.rlt (i := 0) rfl)
  obtain ⟨a3, b3, g3, rfl⟩ := AO.form2
  have d := d.callP (AcG.kp _ _) k5 AO
  refine W.bs e5 ?_
  have hIn' := hIn
  obtain ⟨⟨a0, a7⟩, ⟨b0, b7⟩, ⟨c0, c7⟩, hx4, hx6, hop0, hop1⟩ := hIn'
  have hal : x.a.toNat < A.regs.length := by omega
  ((try simp only [n1, n2, n3, n4, n5, n6] at d); (with_reducible repeat first | refine W.a1 d ?_ | refine W.a2 ?_ | refine W.a3 ?_ | refine W.bo ?_ | refine W.a5 d fun hw d lw kw => ?_ | refine W.a6 d ?_ | refine W.a7 ?_ | refine W.a8 ?_); (refine W.nD d fun h6 d _ => ?_); (with_reducible repeat first | refine W.a1 d ?_ | refine W.a2 ?_ | refine W.a3 ?_ | refine W.bo ?_ | refine W.a5 d fun hw d lw kw => ?_ | refine W.a6 d ?_ | refine W.a7 ?_ | refine W.a8 ?_); (refine W.nD d fun h7 d _ => ?_); (with_reducible repeat first | refine W.a1 d ?_ | refine W.a2 ?_ | refine W.a3 ?_ | refine W.bo ?_ | refine W.a5 d fun hw d lw kw => ?_ | refine W.a6 d ?_ | refine W.a7 ?_ | refine W.a8 ?_))
  refine W.o4 (d.rs (i := 1) rfl) hal fun ka na sa aa la eA tA rA hsa hla => ?_
  have hBa := m4 _ (List.getElem_mem hal)
  rw [eA] at hBa
  have eA' := rg_eq (R := A.regs) a0 hal
  rw [eA] at eA'
  obtain ⟨csR, h8, e8, t8, k8⟩ := l1CopyG_run (base := base) (f + 1) _ S1 _ _ tA.tmR hBa d.ge (d.rlt (i := 1) rfl)
  obtain ⟨k', n', s', ar, m', rfl⟩ := t8.form
  obtain ⟨rfl, rfl, rfl, rfl⟩ := t8.eq
  have d := d.callP (TmG.kp _ _) k8 t8
  have n8 := k8.1
  refine W.bs e8 ?_
  ((try simp only [n1, n2, n3, n4, n5, n6] at d); (with_reducible repeat first | refine W.a1 d ?_ | refine W.a2 ?_ | refine W.a3 ?_ | refine W.bo ?_ | refine W.a5 d fun hw d lw kw => ?_ | refine W.a6 d ?_ | refine W.a7 ?_ | refine W.a8 ?_); (refine W.nD d fun h9 d _ => ?_); (with_reducible repeat first | refine W.a1 d ?_ | refine W.a2 ?_ | refine W.a3 ?_ | refine W.bo ?_ | refine W.a5 d fun hw d lw kw => ?_ | refine W.a6 d ?_ | refine W.a7 ?_ | refine W.a8 ?_))
  refine W.ite (fun c => ?_) (fun c10 => ?_)
  · have e10 := beq_iff_eq.1 c
    have hxb7 : x.b ≤ 7 := b7.resolve_left (by omega)
    have hbl : x.b.toNat < A.regs.length := by omega
    have es : stepF (f + 2) x A next = (⟨A.pid, if (!sameB (f + 2) (rg A.regs x.a) (rg A.regs x.b)) = true then x.n else IntKind.wrap .i64 (A.pc + 1), A.regs, A.box, A.links⟩, ⟨1, 0, 0, tmZ⟩) := by
      unfold stepF nextF actsF makesF jumpsF
      simp [e10]
    rw [es, eA', rg_eq b0 hbl]
    refine W.join ?_
    ((try simp only [n1, n2, n3, n4, n5, n6] at d); (with_reducible repeat first | refine W.a1 d ?_ | refine W.a2 ?_ | refine W.a3 ?_ | refine W.bo ?_ | refine W.a5 d fun hw d lw kw => ?_ | refine W.a6 d ?_ | refine W.a7 ?_ | refine W.a8 ?_))
    refine W.o4 (d.rs (i := 1) rfl) hbl fun kb nb sb ab lb eB tB rB hsb hlb => ?_
    rw [eB]
    have t3 : TmG base (f + 1) _ _ _ _ := d.rs (i := 3) rfl
    obtain ⟨h10, e11, k10⟩ := specSame_run (base := base) (f + 2) (f + 1) _ _ _ _ _ _ _ (t3.tmR.le (by omega)) tB.tmR d.ge
    have d := d.kN k10
    refine W.bs e11 ?_
    ((try simp only [n1, n2, n3, n4, n5, n6] at d); (with_reducible repeat first | refine W.a1 d ?_ | refine W.a2 ?_ | refine W.a3 ?_ | refine W.bo ?_ | refine W.a5 d fun hw d lw kw => ?_ | refine W.a6 d ?_ | refine W.a7 ?_ | refine W.a8 ?_))
    refine W.ite (fun e => ?_) (fun e => ?_)
    · rw [if_pos e]
      ((try simp only [n1, n2, n3, n4, n5, n6] at d); (with_reducible repeat first | refine W.a1 d ?_ | refine W.a2 ?_ | refine W.a3 ?_ | refine W.bo ?_ | refine W.a5 d fun hw d lw kw => ?_ | refine W.a6 d ?_ | refine W.a7 ?_ | refine W.a8 ?_))
      refine W.il ?_
      ((try simp only [n1, n2, n3, n4, n5, n6] at d); (with_reducible repeat first | refine W.a1 d ?_ | refine W.a2 ?_ | refine W.a3 ?_ | refine W.bo ?_ | refine W.a5 d fun hw d lw kw => ?_ | refine W.a6 d ?_ | refine W.a7 ?_ | refine W.a8 ?_))
      have hA : AcG base (f + 1) _ _ A _ := d.rs (i := 2) rfl
      exact W.ret (StepQ.of d (i := 2) rfl ((hA.setPc x.n).le (by omega)) (T := fun _ => False) tmZ_G (fun _ _ h => h) (fun _ h => h.elim))
    · rw [if_neg e]
      refine W.il ?_
      ((try simp only [n1, n2, n3, n4, n5, n6] at d); (with_reducible repeat first | refine W.a1 d ?_ | refine W.a2 ?_ | refine W.a3 ?_ | refine W.bo ?_ | refine W.a5 d fun hw d lw kw => ?_ | refine W.a6 d ?_ | refine W.a7 ?_ | refine W.a8 ?_))
      have hA : AcG base (f + 1) _ _ A _ := d.rs (i := 2) rfl
      exact W.ret (StepQ.of d (i := 2) rfl ((hA.setPc (IntKind.wrap .i64 (A.pc + 1))).le (by omega)) (T := fun _ => False) tmZ_G (fun _ _ h => h) (fun _ h => h.elim))
  refine W.ite (fun c => ?_) (fun c11 => ?_)
  · have e11 := beq_iff_eq.1 c
    have es : stepF (f + 2) x A next = (⟨A.pid, if (ka != x.b) = true then x.n else IntKind.wrap .i64 (A.pc + 1), A.regs, A.box, A.links⟩, ⟨1, 0, 0, tmZ⟩) := by
      unfold stepF nextF actsF makesF jumpsF
      rw [eA']
      simp [e11, Tm.kd]
    rw [es]
    refine W.join ?_
    ((try simp only [n1, n2, n3, n4, n5, n6] at d); (with_reducible repeat first | refine W.a1 d ?_ | refine W.a2 ?_ | refine W.a3 ?_ | refine W.bo ?_ | refine W.a5 d fun hw d lw kw => ?_ | refine W.a6 d ?_ | refine W.a7 ?_ | refine W.a8 ?_))
    refine W.ite (fun e => ?_) (fun e => ?_)
    · rw [if_pos e]
      ((try simp only [n1, n2, n3, n4, n5, n6] at d); (with_reducible repeat first | refine W.a1 d ?_ | refine W.a2 ?_ | refine W.a3 ?_ | refine W.bo ?_ | refine W.a5 d fun hw d lw kw => ?_ | refine W.a6 d ?_ | refine W.a7 ?_ | refine W.a8 ?_))
      refine W.il ?_
      ((try simp only [n1, n2, n3, n4, n5, n6] at d); (with_reducible repeat first | refine W.a1 d ?_ | refine W.a2 ?_ | refine W.a3 ?_ | refine W.bo ?_ | refine W.a5 d fun hw d lw kw => ?_ | refine W.a6 d ?_ | refine W.a7 ?_ | refine W.a8 ?_))
      have hA : AcG base (f + 1) _ _ A _ := d.rs (i := 2) rfl
      exact W.ret (StepQ.of d (i := 2) rfl ((hA.setPc x.n).le (by omega)) (T := fun _ => False) tmZ_G (fun _ _ h => h) (fun _ h => h.elim))
    · rw [if_neg e]
      refine W.il ?_
      ((try simp only [n1, n2, n3, n4, n5, n6] at d); (with_reducible repeat first | refine W.a1 d ?_ | refine W.a2 ?_ | refine W.a3 ?_ | refine W.bo ?_ | refine W.a5 d fun hw d lw kw => ?_ | refine W.a6 d ?_ | refine W.a7 ?_ | refine W.a8 ?_))
      have hA : AcG base (f + 1) _ _ A _ := d.rs (i := 2) rfl
      exact W.ret (StepQ.of d (i := 2) rfl ((hA.setPc (IntKind.wrap .i64 (A.pc + 1))).le (by omega)) (T := fun _ => False) tmZ_G (fun _ _ h => h) (fun _ h => h.elim))
  refine W.ite (fun c => ?_) (fun c12 => ?_)
  · have e12 := beq_iff_eq.1 c
    have es : stepF (f + 2) x A next = (⟨A.pid, x.n, A.regs, A.box, A.links⟩, ⟨1, 0, 0, tmZ⟩) := by
      unfold stepF nextF actsF makesF jumpsF
      simp [e12]
    rw [es]
    ((try simp only [n1, n2, n3, n4, n5, n6] at d); (with_reducible repeat first | refine W.a1 d ?_ | refine W.a2 ?_ | refine W.a3 ?_ | refine W.bo ?_ | refine W.a5 d fun hw d lw kw => ?_ | refine W.a6 d ?_ | refine W.a7 ?_ | refine W.a8 ?_))
    have hA : AcG base (f + 1) _ _ A _ := d.rs (i := 2) rfl
    exact W.ret (StepQ.of d (i := 2) rfl ((hA.setPc x.n).le (by omega)) (T := fun _ => False) tmZ_G (fun _ _ h => h) (fun _ h => h.elim))
  apply W.jb (decide (x.op = 13 ∨ x.op = 18)) d
  · refine W.ite (fun c => ?_) (fun c => ?_)
    · exact W.lb rfl (by rw [c]; have := beq_iff_eq.1 c; simp [this]) (KB.refl _ _)
    · have c' : x.op ≠ 13 := by simpa using c
      exact W.lb rfl (by congr 3; simp [c']; rfl) (KB.refl _ _)
  intro h10 d n10
  ((try simp only [n1, n2, n3, n4, n5, n6] at d); (with_reducible repeat first | refine W.a1 d ?_ | refine W.a2 ?_ | refine W.a3 ?_ | refine W.bo ?_ | refine W.a5 d fun hw d lw kw => ?_ | refine W.a6 d ?_ | refine W.a7 ?_ | refine W.a8 ?_))
  refine W.ite (fun c => ?_) (fun c => ?_)
  · have c' := of_decide_eq_true c
    ((try simp only [n1, n2, n3, n4, n5, n6] at d); (with_reducible repeat first | refine W.a1 d ?_ | refine W.a2 ?_ | refine W.a3 ?_ | refine W.bo ?_ | refine W.a5 d fun hw d lw kw => ?_ | refine W.a6 d ?_ | refine W.a7 ?_ | refine W.a8 ?_))
    refine W.ite (fun e => ?_) (fun e => ?_)
    · have es : stepF (f + 2) x A next = (A, fltA) := by
        unfold stepF actsF
        rw [eA']
        have e' : ¬ ka = 3 := by simpa using e
        rcases c' with c' | c' <;> simp [c', Tm.kd, e']
      rw [es]
      ((try simp only [n1, n2, n3, n4, n5, n6] at d); (with_reducible repeat first | refine W.a1 d ?_ | refine W.a2 ?_ | refine W.a3 ?_ | refine W.bo ?_ | refine W.a5 d fun hw d lw kw => ?_ | refine W.a6 d ?_ | refine W.a7 ?_ | refine W.a8 ?_))
      obtain ⟨csF, h11, e11, AF, k11⟩ := l9Copy_run (base := base) hBA' (d.rs (i := 0) rfl).acR d.ge (d.rlt (i := 0) rfl)
      obtain ⟨a4, b4, g4, rfl⟩ := AF.form2
      have d := d.callP (AcG.kp _ _) k11 AF
      refine W.bs e11 ?_
      ((try simp only [n1, n2, n3, n4, n5, n6] at d); (with_reducible repeat first | refine W.a1 d ?_ | refine W.a2 ?_ | refine W.a3 ?_ | refine W.bo ?_ | refine W.a5 d fun hw d lw kw => ?_ | refine W.a6 d ?_ | refine W.a7 ?_ | refine W.a8 ?_))
      obtain ⟨h12, e12, k12⟩ := l9Fault_run (base := base) (p := A.pid) (c := A.pc) (a := a4) (b := b4) (g := g4) (x := A.regs.length) (y := A.box.length) (z := A.links.length) d.ge
      have d := d.kN k12
      refine W.bs e12 ?_
      ((try simp only [n1, n2, n3, n4, n5, n6] at d); (with_reducible repeat first | refine W.a1 d ?_ | refine W.a2 ?_ | refine W.a3 ?_ | refine W.bo ?_ | refine W.a5 d fun hw d lw kw => ?_ | refine W.a6 d ?_ | refine W.a7 ?_ | refine W.a8 ?_))
      have hA : AcG base (f + 1) _ _ A _ := d.rs (i := 4) rfl
      exact W.ret (StepQ.of d (i := 4) rfl (hA.le (by omega)) (T := fun _ => False) (atomG (by decide)) (fun _ _ h => h) (fun _ h => h.elim))
    · have hka : ka = 3 := by simpa using e
      ((try simp only [n1, n2, n3, n4, n5, n6] at d); (with_reducible repeat first | refine W.a1 d ?_ | refine W.a2 ?_ | refine W.a3 ?_ | refine W.bo ?_ | refine W.a5 d fun hw d lw kw => ?_ | refine W.a6 d ?_ | refine W.a7 ?_ | refine W.a8 ?_))
      refine W.ite (fun c18 => ?_) (fun c18 => ?_)
      · have e18 := beq_iff_eq.1 c18
        have es : stepF (f + 2) x A next = (⟨A.pid, IntKind.wrap .i64 (A.pc + 1), A.regs, A.box, A.links⟩, ⟨6, na, 0, tmZ⟩) := by
          unfold stepF nextF actsF makesF jumpsF
          rw [eA']
          simp [e18, Tm.kd, Tm.nm, hka]
        rw [es]
        ((try simp only [n1, n2, n3, n4, n5, n6] at d); (with_reducible repeat first | refine W.a1 d ?_ | refine W.a2 ?_ | refine W.a3 ?_ | refine W.bo ?_ | refine W.a5 d fun hw d lw kw => ?_ | refine W.a6 d ?_ | refine W.a7 ?_ | refine W.a8 ?_))
        have hA : AcG base (f + 1) _ _ A _ := d.rs (i := 2) rfl
        exact W.ret (StepQ.of d (i := 2) rfl ((hA.setPc (IntKind.wrap .i64 (A.pc + 1))).le (by omega)) (T := fun _ => False) tmZ_G (fun _ _ h => h) (fun _ h => h.elim))
      · have e13 : x.op = 13 := c'.resolve_right fun h => c18 (by simp [h])
        have hxb7 : x.b ≤ 7 := b7.resolve_left (by omega)
        have hbl : x.b.toNat < A.regs.length := by omega
        ((try simp only [n1, n2, n3, n4, n5, n6] at d); (with_reducible repeat first | refine W.a1 d ?_ | refine W.a2 ?_ | refine W.a3 ?_ | refine W.bo ?_ | refine W.a5 d fun hw d lw kw => ?_ | refine W.a6 d ?_ | refine W.a7 ?_ | refine W.a8 ?_))
        refine W.o4 (d.rs (i := 1) rfl) hbl fun kb nb sb ab lb eB tB rB hsb hlb => ?_
        have hBb := m4 _ (List.getElem_mem hbl)
        rw [eB] at hBb
        have eB' := rg_eq (R := A.regs) b0 hbl
        rw [eB] at eB'
        have es : stepF (f + 2) x A next = (⟨A.pid, IntKind.wrap .i64 (A.pc + 1), A.regs, A.box, A.links⟩, ⟨3, na, 0, .mk kb nb sb lb⟩) := by
          unfold stepF nextF actsF makesF jumpsF
          rw [eA', eB']
          simp [e13, Tm.kd, Tm.nm, hka]
        rw [es]
        obtain ⟨csB, h11, e11, t11, k11⟩ := l1CopyG_run (base := base) (f + 1) _ S1 _ _ tB.tmR hBb d.ge (d.rlt (i := 1) rfl)
        obtain ⟨k', n', s', a', m', rfl⟩ := t11.form
        obtain ⟨rfl, rfl, rfl, rfl⟩ := t11.eq
        have n11 := k11.1
        have d := d.callP (TmG.kp _ _) k11 t11
        refine W.bs e11 ?_
        ((try simp only [n1, n2, n3, n4, n5, n6] at d); (with_reducible repeat first | refine W.a1 d ?_ | refine W.a2 ?_ | refine W.a3 ?_ | refine W.bo ?_ | refine W.a5 d fun hw d lw kw => ?_ | refine W.a6 d ?_ | refine W.a7 ?_ | refine W.a8 ?_))
        have hA : AcG base (f + 1) _ _ A _ := d.rs (i := 2) rfl
        have hT : TmG base (f + 1) _ _ _ _ := d.rs (i := 4) rfl
        exact W.ret (StepQ.of d (i := 2) rfl ((hA.setPc (IntKind.wrap .i64 (A.pc + 1))).le (by omega)) (hT.le (by omega)) (fun b h1 h2 => by omega) (fun b hb => ⟨(d.rfr (i := 4) rfl rfl b hb).resolve_left fun h => h, d.rlt (i := 4) rfl b hb⟩))
  have c' : ¬ (x.op = 13 ∨ x.op = 18) := by simpa using c
  simp only [beq_iff_eq] at c10 c11 c12
  refine W.ite (fun c => ?_) (fun c17 => ?_)
  · have e17 := beq_iff_eq.1 c
    have es : stepF (f + 2) x A next = (⟨A.pid, IntKind.wrap .i64 (A.pc + 1), A.regs, A.box, A.links⟩, ⟨5, 0, 0, .mk ka na sa la⟩) := by
      unfold stepF nextF actsF makesF jumpsF
      rw [eA']
      simp [e17]
    rw [es]
    ((try simp only [n1, n2, n3, n4, n5, n6] at d); (with_reducible repeat first | refine W.a1 d ?_ | refine W.a2 ?_ | refine W.a3 ?_ | refine W.bo ?_ | refine W.a5 d fun hw d lw kw => ?_ | refine W.a6 d ?_ | refine W.a7 ?_ | refine W.a8 ?_))
    have hA : AcG base (f + 1) _ _ A _ := d.rs (i := 2) rfl
    have hT : TmG base (f + 1) _ _ _ _ := d.rs (i := 3) rfl
    exact W.ret (StepQ.of d (i := 2) rfl ((hA.setPc (IntKind.wrap .i64 (A.pc + 1))).le (by omega)) (hT.le (by omega)) (fun b h1 h2 => by omega) (fun b hb => ⟨(d.rfr (i := 3) rfl rfl b hb).resolve_left fun h => h, d.rlt (i := 3) rfl b hb⟩))
  refine W.ite (fun c => ?_) (fun c19 => ?_)
  · have e19 := beq_iff_eq.1 c
    have es : stepF (f + 2) x A next = (A, ⟨7, 0, 0, .mk ka na sa la⟩) := by
      unfold stepF nextF actsF makesF jumpsF
      rw [eA']
      simp [e19]
    rw [es]
    ((try simp only [n1, n2, n3, n4, n5, n6] at d); (with_reducible repeat first | refine W.a1 d ?_ | refine W.a2 ?_ | refine W.a3 ?_ | refine W.bo ?_ | refine W.a5 d fun hw d lw kw => ?_ | refine W.a6 d ?_ | refine W.a7 ?_ | refine W.a8 ?_))
    have hA : AcG base (f + 1) _ _ A _ := d.rs (i := 2) rfl
    have hT : TmG base (f + 1) _ _ _ _ := d.rs (i := 3) rfl
    exact W.ret (StepQ.of d (i := 2) rfl (hA.le (by omega)) (hT.le (by omega)) (fun b h1 h2 => by omega) (fun b hb => ⟨(d.rfr (i := 3) rfl rfl b hb).resolve_left fun h => h, d.rlt (i := 3) rfl b hb⟩))
  simp only [beq_iff_eq] at c17 c19
  refine W.ite (fun c => ?_) (fun c14 => ?_)
  · have e14 := beq_iff_eq.1 c
    ((try simp only [n1, n2, n3, n4, n5, n6] at d); (with_reducible repeat first | refine W.a1 d ?_ | refine W.a2 ?_ | refine W.a3 ?_ | refine W.bo ?_ | refine W.a5 d fun hw d lw kw => ?_ | refine W.a6 d ?_ | refine W.a7 ?_ | refine W.a8 ?_))
    refine W.ite (fun e => ?_) (fun e => ?_)
    · have es : stepF (f + 2) x A next = (A, ⟨2, 0, 0, tmZ⟩) := by
        unfold stepF actsF
        simp at e
        simp [e14, e]
      rw [es]
      ((try simp only [n1, n2, n3, n4, n5, n6] at d); (with_reducible repeat first | refine W.a1 d ?_ | refine W.a2 ?_ | refine W.a3 ?_ | refine W.bo ?_ | refine W.a5 d fun hw d lw kw => ?_ | refine W.a6 d ?_ | refine W.a7 ?_ | refine W.a8 ?_))
      obtain ⟨csF, h11, e11, AF, k11⟩ := l9Copy_run (base := base) hBA' (d.rs (i := 0) rfl).acR d.ge (d.rlt (i := 0) rfl)
      obtain ⟨a4, b4, g4, rfl⟩ := AF.form2
      have d := d.callP (AcG.kp _ _) k11 AF
      refine W.bs e11 ?_
      ((try simp only [n1, n2, n3, n4, n5, n6] at d); (with_reducible repeat first | refine W.a1 d ?_ | refine W.a2 ?_ | refine W.a3 ?_ | refine W.bo ?_ | refine W.a5 d fun hw d lw kw => ?_ | refine W.a6 d ?_ | refine W.a7 ?_ | refine W.a8 ?_))
      have hA : AcG base (f + 1) _ _ A _ := d.rs (i := 4) rfl
      exact W.ret (StepQ.of d (i := 4) rfl (hA.le (by omega)) (T := fun _ => False) tmZ_G (fun _ _ h => h) (fun _ h => h.elim))
    · have hbl : A.box.length ≠ 0 := by simpa using e
      obtain ⟨t0, B0, eB⟩ : ∃ t0 B0, A.box = t0 :: B0 := by
        cases hbx : A.box with
        | nil => rw [hbx] at hbl; exact absurd rfl hbl
        | cons t0 B0 => exact ⟨t0, B0, rfl⟩
      have es : stepF (f + 2) x A next = (⟨A.pid, IntKind.wrap .i64 (A.pc + 1), A.regs.set x.a.toNat t0, B0, A.links⟩, ⟨1, 0, 0, tmZ⟩) := by
        unfold stepF nextF actsF makesF jumpsF
        simp [e14, eB]
        omega
      rw [es]
      have hA : AcG base (f + 1) _ _ A _ := d.rs (i := 2) rfl
      obtain ⟨aa, bb, gg, k', n', s', a', m', h11, ecs, g0, g1, g2, g3, w11, hok2, A11, k11, l11⟩ := hA.take hal eB
      injection ecs with c1 ecs
      injection ecs with c2 ecs
      injection ecs with c3 ecs
      injection ecs with c4 ecs
      injection ecs with c5 _
      injection c3 with c3 _ _; injection c4 with c4 _ _; injection c5 with c5 _ _
      subst c3; subst c4; subst c5
      ((try simp only [n1, n2, n3, n4, n5, n6] at d); (with_reducible repeat first | refine W.a1 d ?_ | refine W.a2 ?_ | refine W.a3 ?_ | refine W.bo ?_ | refine W.a5 d fun hw d lw kw => ?_ | refine W.a6 d ?_ | refine W.a7 ?_ | refine W.a8 ?_))
      refine W.bI g0 (W.bI g1 (W.bT g2 (W.bS g3 ?_)))
      ((try simp only [n1, n2, n3, n4, n5, n6] at d); (with_reducible repeat first | refine W.a1 d ?_ | refine W.a2 ?_ | refine W.a3 ?_ | refine W.bo ?_ | refine W.a5 d fun hw d lw kw => ?_ | refine W.a6 d ?_ | refine W.a7 ?_ | refine W.a8 ?_))
      have d := d.updP (AcG.kp _ _) (Upd.at (i := 2) rfl) rfl k11 A11 (fun b hb => .inl hb) (fun b hb => .inl hb)
      refine W.bs w11 ?_
      ((try simp only [n1, n2, n3, n4, n5, n6] at d); (with_reducible repeat first | refine W.a1 d ?_ | refine W.a2 ?_ | refine W.a3 ?_ | refine W.bo ?_ | refine W.a5 d fun hw d lw kw => ?_ | refine W.a6 d ?_ | refine W.a7 ?_ | refine W.a8 ?_))
      refine W.ifT ⟨by decide, by show (1 : Int) ≤ (A.box.length : Int); omega, Int.le_refl _, hok2 _⟩ ?_
      ((try simp only [n1, n2, n3, n4, n5, n6] at d); (with_reducible repeat first | refine W.a1 d ?_ | refine W.a2 ?_ | refine W.a3 ?_ | refine W.bo ?_ | refine W.a5 d fun hw d lw kw => ?_ | refine W.a6 d ?_ | refine W.a7 ?_ | refine W.a8 ?_))
      have e11 : Int.toNat (A.box.length : Int) - 1 = B0.length := by rw [eB]; simp
      have hA2 : AcG base (f + 1) _ _ _ _ := d.rs (i := 2) rfl
      rw [show Int.toNat (A.box.length : Int) - Int.toNat 1 = B0.length from e11]
      exact W.ret (StepQ.of d (i := 2) rfl ((hA2.setPc (IntKind.wrap .i64 (A.pc + 1))).le (by omega)) (T := fun _ => False) tmZ_G (fun _ _ h => h) (fun _ h => h.elim))
  simp only [beq_iff_eq] at c14
  have hmk : makesF x.op = true := by
    unfold makesF
    simp [c10, c11, c12, c17, c19]
    omega
  ((try simp only [n1, n2, n3, n4, n5, n6] at d); (with_reducible repeat first | refine W.a1 d ?_ | refine W.a2 ?_ | refine W.a3 ?_ | refine W.bo ?_ | refine W.a5 d fun hw d lw kw => ?_ | refine W.a6 d ?_ | refine W.a7 ?_ | refine W.a8 ?_))
  refine W.wb (l9Make_run (f := f) (next := next) (d.rs (i := 0) rfl) hR8 hIn hmk c14 (by omega) m4 (d.rlt (i := 0) rfl) d.ge) ?_
  rintro ⟨u, h11⟩ ⟨km, nm, sm, am, mm, bo, rfl, k11, q11⟩
  have hst : stepF (f + 2) x A next = match (match madeF x A.regs A.pid next with | none => none | some t => if tOk (f + 2) t = true then some (A.regs.set x.a.toNat t, A.box) else none) with | none => (A, fltA) | some (R, B) => (⟨A.pid, IntKind.wrap .i64 (A.pc + 1), R, B, A.links⟩, (actsF x A.regs next).1) := by
    have h13 : x.op ≠ 13 := fun h => c' (.inl h)
    have h18 : x.op ≠ 18 := fun h => c' (.inr h)
    have ha2 : (actsF x A.regs next).2 = true := by unfold actsF; simp [h13, h18, c17, c19]; split <;> rfl
    have hj : jumpsF (f + 2) x A.regs = false := by unfold jumpsF; simp [c10, c11, c12]
    unfold stepF nextF
    (simp [ha2, c19, c14, hmk, hj]) <;> rfl
  rw [hst]
  cases hmF : madeF x A.regs A.pid next with
  | none =>
    rw [hmF] at q11
    have q11 : bo = false := q11
    subst q11
    have d := d.kN k11
    ((try simp only [n1, n2, n3, n4, n5, n6] at d); (with_reducible repeat first | refine W.a1 d ?_ | refine W.a2 ?_ | refine W.a3 ?_ | refine W.bo ?_ | refine W.a5 d fun hw d lw kw => ?_ | refine W.a6 d ?_ | refine W.a7 ?_ | refine W.a8 ?_); (refine W.nD d fun h12 d _ => ?_); (with_reducible repeat first | refine W.a1 d ?_ | refine W.a2 ?_ | refine W.a3 ?_ | refine W.bo ?_ | refine W.a5 d fun hw d lw kw => ?_ | refine W.a6 d ?_ | refine W.a7 ?_ | refine W.a8 ?_))
    apply W.jb true d
    · exact W.ifT rfl (W.lb rfl rfl (KB.refl _ _))
    intro h13 d n13
    ((try simp only [n1, n2, n3, n4, n5, n6] at d); (with_reducible repeat first | refine W.a1 d ?_ | refine W.a2 ?_ | refine W.a3 ?_ | refine W.bo ?_ | refine W.a5 d fun hw d lw kw => ?_ | refine W.a6 d ?_ | refine W.a7 ?_ | refine W.a8 ?_))
    refine W.ifT rfl ?_
    ((try simp only [n1, n2, n3, n4, n5, n6] at d); (with_reducible repeat first | refine W.a1 d ?_ | refine W.a2 ?_ | refine W.a3 ?_ | refine W.bo ?_ | refine W.a5 d fun hw d lw kw => ?_ | refine W.a6 d ?_ | refine W.a7 ?_ | refine W.a8 ?_))
    obtain ⟨csF, h14, e14, AF, k14⟩ := l9Copy_run (base := base) hBA' (d.rs (i := 0) rfl).acR d.ge (d.rlt (i := 0) rfl)
    obtain ⟨a4, b4, g4, rfl⟩ := AF.form2
    have d := d.callP (AcG.kp _ _) k14 AF
    refine W.bs e14 ?_
    ((try simp only [n1, n2, n3, n4, n5, n6] at d); (with_reducible repeat first | refine W.a1 d ?_ | refine W.a2 ?_ | refine W.a3 ?_ | refine W.bo ?_ | refine W.a5 d fun hw d lw kw => ?_ | refine W.a6 d ?_ | refine W.a7 ?_ | refine W.a8 ?_))
    obtain ⟨h15, e15, k15⟩ := l9Fault_run (base := base) (p := A.pid) (c := A.pc) (a := a4) (b := b4) (g := g4) (x := A.regs.length) (y := A.box.length) (z := A.links.length) d.ge
    have d := d.kN k15
    refine W.bs e15 ?_
    ((try simp only [n1, n2, n3, n4, n5, n6] at d); (with_reducible repeat first | refine W.a1 d ?_ | refine W.a2 ?_ | refine W.a3 ?_ | refine W.bo ?_ | refine W.a5 d fun hw d lw kw => ?_ | refine W.a6 d ?_ | refine W.a7 ?_ | refine W.a8 ?_))
    have hA : AcG base (f + 1) _ _ A _ := d.rs (i := 4) rfl
    exact W.ret (StepQ.of d (i := 4) rfl (hA.le (by omega)) (T := fun _ => False) (atomG (by decide)) (fun _ _ h => h) (fun _ h => h.elim))
  | some t =>
    rw [hmF] at q11
    obtain ⟨rfl, t11⟩ := q11
    have n11 : h10.length ≤ h11.length := k11.1
    have d := d.callP (TmG.kp _ _) k11 t11
    ((try simp only [n1, n2, n3, n4, n5, n6] at d); (with_reducible repeat first | refine W.a1 d ?_ | refine W.a2 ?_ | refine W.a3 ?_ | refine W.bo ?_ | refine W.a5 d fun hw d lw kw => ?_ | refine W.a6 d ?_ | refine W.a7 ?_ | refine W.a8 ?_); (refine W.nD d fun h12 d _ => ?_); (with_reducible repeat first | refine W.a1 d ?_ | refine W.a2 ?_ | refine W.a3 ?_ | refine W.bo ?_ | refine W.a5 d fun hw d lw kw => ?_ | refine W.a6 d ?_ | refine W.a7 ?_ | refine W.a8 ?_))
    apply W.jb (!tOk (f + 2) t) d
    · refine W.ifF (by decide) ?_
      ((try simp only [n1, n2, n3, n4, n5, n6] at d); (with_reducible repeat first | refine W.a1 d ?_ | refine W.a2 ?_ | refine W.a3 ?_ | refine W.bo ?_ | refine W.a5 d fun hw d lw kw => ?_ | refine W.a6 d ?_ | refine W.a7 ?_ | refine W.a8 ?_))
      have tt : TmG base (f + 2) _ _ t _ := d.rs (i := 4) rfl
      obtain ⟨h13, e13, k13⟩ := specTermOk_run (base := base) tt.tmR d.ge
      refine W.bs e13 ?_
      ((try simp only [n1, n2, n3, n4, n5, n6] at d); (with_reducible repeat first | refine W.a1 d ?_ | refine W.a2 ?_ | refine W.a3 ?_ | refine W.bo ?_ | refine W.a5 d fun hw d lw kw => ?_ | refine W.a6 d ?_ | refine W.a7 ?_ | refine W.a8 ?_))
      exact W.lb rfl rfl k13
    intro h13 d n13
    ((try simp only [n1, n2, n3, n4, n5, n6] at d); (with_reducible repeat first | refine W.a1 d ?_ | refine W.a2 ?_ | refine W.a3 ?_ | refine W.bo ?_ | refine W.a5 d fun hw d lw kw => ?_ | refine W.a6 d ?_ | refine W.a7 ?_ | refine W.a8 ?_))
    refine W.ite (fun e => ?_) (fun e => ?_)
    · have e' : tOk (f + 2) t = false := by simpa using e
      simp only [e']
      ((try simp only [n1, n2, n3, n4, n5, n6] at d); (with_reducible repeat first | refine W.a1 d ?_ | refine W.a2 ?_ | refine W.a3 ?_ | refine W.bo ?_ | refine W.a5 d fun hw d lw kw => ?_ | refine W.a6 d ?_ | refine W.a7 ?_ | refine W.a8 ?_))
      obtain ⟨csF, h14, e14, AF, k14⟩ := l9Copy_run (base := base) hBA' (d.rs (i := 0) rfl).acR d.ge (d.rlt (i := 0) rfl)
      obtain ⟨a4, b4, g4, rfl⟩ := AF.form2
      have d := d.callP (AcG.kp _ _) k14 AF
      refine W.bs e14 ?_
      ((try simp only [n1, n2, n3, n4, n5, n6] at d); (with_reducible repeat first | refine W.a1 d ?_ | refine W.a2 ?_ | refine W.a3 ?_ | refine W.bo ?_ | refine W.a5 d fun hw d lw kw => ?_ | refine W.a6 d ?_ | refine W.a7 ?_ | refine W.a8 ?_))
      obtain ⟨h15, e15, k15⟩ := l9Fault_run (base := base) (p := A.pid) (c := A.pc) (a := a4) (b := b4) (g := g4) (x := A.regs.length) (y := A.box.length) (z := A.links.length) d.ge
      have d := d.kN k15
      refine W.bs e15 ?_
      ((try simp only [n1, n2, n3, n4, n5, n6] at d); (with_reducible repeat first | refine W.a1 d ?_ | refine W.a2 ?_ | refine W.a3 ?_ | refine W.bo ?_ | refine W.a5 d fun hw d lw kw => ?_ | refine W.a6 d ?_ | refine W.a7 ?_ | refine W.a8 ?_))
      have hA : AcG base (f + 1) _ _ A _ := d.rs (i := 5) rfl
      exact W.ret (StepQ.of d (i := 5) rfl (hA.le (by omega)) (T := fun _ => False) (atomG (by decide)) (fun _ _ h => h) (fun _ h => h.elim))
    · have e' : tOk (f + 2) t = true := by simpa using e
      simp only [e', if_true]
      refine W.join ?_
      ((try simp only [n1, n2, n3, n4, n5, n6] at d); (with_reducible repeat first | refine W.a1 d ?_ | refine W.a2 ?_ | refine W.a3 ?_ | refine W.bo ?_ | refine W.a5 d fun hw d lw kw => ?_ | refine W.a6 d ?_ | refine W.a7 ?_ | refine W.a8 ?_))
      refine W.ite (fun c16 => ?_) (fun c16 => ?_)
      · have e16 := beq_iff_eq.1 c16
        have hxb7 : x.b ≤ 7 := b7.resolve_left (by omega)
        have hbl : x.b.toNat < A.regs.length := by omega
        ((try simp only [n1, n2, n3, n4, n5, n6] at d); (with_reducible repeat first | refine W.a1 d ?_ | refine W.a2 ?_ | refine W.a3 ?_ | refine W.bo ?_ | refine W.a5 d fun hw d lw kw => ?_ | refine W.a6 d ?_ | refine W.a7 ?_ | refine W.a8 ?_))
        refine W.o4 (d.rs (i := 1) rfl) hbl fun kb nb sb ab lb eB tB rB hsb hlb => ?_
        have hBb := m4 _ (List.getElem_mem hbl)
        rw [eB] at hBb
        have eB' := rg_eq (R := A.regs) b0 hbl
        rw [eB] at eB'
        have ea : (actsF x A.regs next).1 = ⟨4, next, x.n, .mk kb nb sb lb⟩ := by
          unfold actsF
          rw [eB']
          simp [e16]
        rw [ea]
        obtain ⟨csB, h14, e14, t14, k14⟩ := l1CopyG_run (base := base) (f + 1) _ S1 _ _ tB.tmR hBb d.ge (d.rlt (i := 1) rfl)
        obtain ⟨k', n', s', a', m', rfl⟩ := t14.form
        obtain ⟨rfl, rfl, rfl, rfl⟩ := t14.eq
        have n14 := k14.1
        have d := d.callP (TmG.kp _ _) k14 t14
        refine W.bs e14 ?_
        ((try simp only [n1, n2, n3, n4, n5, n6] at d); (with_reducible repeat first | refine W.a1 d ?_ | refine W.a2 ?_ | refine W.a3 ?_ | refine W.bo ?_ | refine W.a5 d fun hw d lw kw => ?_ | refine W.a6 d ?_ | refine W.a7 ?_ | refine W.a8 ?_))
        refine W.il ?_
        ((try simp only [n1, n2, n3, n4, n5, n6] at d); (with_reducible repeat first | refine W.a1 d ?_ | refine W.a2 ?_ | refine W.a3 ?_ | refine W.bo ?_ | refine W.a5 d fun hw d lw kw => ?_ | refine W.a6 d ?_ | refine W.a7 ?_ | refine W.a8 ?_))
        have hA : AcG base (f + 1) _ _ A _ := d.rs (i := 2) rfl
        have tt : TmG base (f + 2) _ _ t _ := d.rs (i := 4) rfl
        obtain ⟨aa, h15, ec, w15, A15, k15, l15⟩ := (hA.le (show f + 1 ≤ f + 2 by omega)).setReg hal tt (fun b h1 h2 => by omega)
        injection ec with ec
        injection ec with ec _ _
        subst ec
        ((try simp only [n1, n2, n3, n4, n5, n6] at d); (with_reducible repeat first | refine W.a1 d ?_ | refine W.a2 ?_ | refine W.a3 ?_ | refine W.bo ?_ | refine W.a5 d fun hw d lw kw => ?_ | refine W.a6 d ?_ | refine W.a7 ?_ | refine W.a8 ?_))
        have d := d.joinP (AcG.kp _ _) (Upd.at (i := 4) rfl) (Upd.at (i := 2) rfl) rfl rfl k15 A15 (fun b hb => .inl hb) (fun b hb => hb.elim .inl fun h => .inr (.inl h))
        refine W.bs w15 ?_
        ((try simp only [n1, n2, n3, n4, n5, n6] at d); (with_reducible repeat first | refine W.a1 d ?_ | refine W.a2 ?_ | refine W.a3 ?_ | refine W.bo ?_ | refine W.a5 d fun hw d lw kw => ?_ | refine W.a6 d ?_ | refine W.a7 ?_ | refine W.a8 ?_))
        have hA : AcG base (f + 2) _ _ _ _ := d.rs (i := 2) rfl
        have hT : TmG base (f + 1) _ _ _ _ := d.rs (i := 5) rfl
        exact W.ret (StepQ.of d (i := 2) rfl (hA.setPc (IntKind.wrap .i64 (A.pc + 1))) (hT.le (by omega)) (fun b h1 h2 => by omega) (fun b hb => ⟨(d.rfr (i := 5) rfl rfl b hb).resolve_left fun h => h, d.rlt (i := 5) rfl b hb⟩))
      · refine W.il ?_
        have h13 : x.op ≠ 13 := fun h => c' (.inl h)
        have h18 : x.op ≠ 18 := fun h => c' (.inr h)
        have c16' : x.op ≠ 16 := by simpa using c16
        have ea : (actsF x A.regs next).1 = ⟨1, 0, 0, tmZ⟩ := by unfold actsF; simp [h13, h18, c17, c19, c16']
        rw [ea]
        ((try simp only [n1, n2, n3, n4, n5, n6] at d); (with_reducible repeat first | refine W.a1 d ?_ | refine W.a2 ?_ | refine W.a3 ?_ | refine W.bo ?_ | refine W.a5 d fun hw d lw kw => ?_ | refine W.a6 d ?_ | refine W.a7 ?_ | refine W.a8 ?_))
        have hA : AcG base (f + 1) _ _ A _ := d.rs (i := 2) rfl
        have tt : TmG base (f + 2) _ _ t _ := d.rs (i := 4) rfl
        obtain ⟨aa, h15, ec, w15, A15, k15, l15⟩ := (hA.le (show f + 1 ≤ f + 2 by omega)).setReg hal tt (fun b h1 h2 => by omega)
        injection ec with ec
        injection ec with ec _ _
        subst ec
        ((try simp only [n1, n2, n3, n4, n5, n6] at d); (with_reducible repeat first | refine W.a1 d ?_ | refine W.a2 ?_ | refine W.a3 ?_ | refine W.bo ?_ | refine W.a5 d fun hw d lw kw => ?_ | refine W.a6 d ?_ | refine W.a7 ?_ | refine W.a8 ?_))
        have d := d.joinP (AcG.kp _ _) (Upd.at (i := 4) rfl) (Upd.at (i := 2) rfl) rfl rfl k15 A15 (fun b hb => .inl hb) (fun b hb => hb.elim .inl fun h => .inr (.inl h))
        refine W.bs w15 ?_
        ((try simp only [n1, n2, n3, n4, n5, n6] at d); (with_reducible repeat first | refine W.a1 d ?_ | refine W.a2 ?_ | refine W.a3 ?_ | refine W.bo ?_ | refine W.a5 d fun hw d lw kw => ?_ | refine W.a6 d ?_ | refine W.a7 ?_ | refine W.a8 ?_))
        have hA : AcG base (f + 2) _ _ _ _ := d.rs (i := 2) rfl
        exact W.ret (StepQ.of d (i := 2) rfl (hA.setPc (IntKind.wrap .i64 (A.pc + 1))) (T := fun _ => False) tmZ_G (fun _ _ h => h) (fun _ h => h.elim))
end Go.Proofs.Ytolcnednfbbnnaa.Am


set_option linter.unusedSimpArgs false
set_option linter.unusedVariables false
namespace Go.Proofs.Ytolcnednfbbnnaa.Am
open Go Go.RowKit

theorem specActorOk_run {base f : Nat} {h : AH} {p : Nat → Prop} {l : List In} {c : Option Addr} {A : Ac} {cs : List Value} (hL : ∀ x ∈ l, x.s.size ≤ 9223372036854775807) (hl : l.length ≤ 9223372036854775807) (hc : Sl h c (insR l)) (hM : AcM A) (x : AcR h p f A cs) (hb : base ≤ h.length) :
    ∃ h', run (Et base) 60 [.slice c l.length l.length, .agg cs.toArray] h = some (.bool (acOk f l A), h') ∧ KB NoB h h' := by
  obtain ⟨a, b, g, rfl, hr, hx, hk, _⟩ := x
  obtain ⟨m1, m2, m3⟩ := hM
  obtain ⟨o1, k1, q1⟩ := box_own (base := base) (t := 52) (h := h) (cs := acV A.pid A.pc a A.regs.length b A.box.length g A.links.length) hb rfl
  generalize hh1 : h ++ [some (⟨acV A.pid A.pc a A.regs.length b A.box.length g A.links.length, 52⟩ : Blk)] = h1 at o1 k1 q1
  obtain ⟨h2, e2, k2⟩ := specCodeOk_run (base := base) hL hl (hc.keepN k1) (by omega)
  have n2 := k2.1
  have o2 := o1.keepN k2
  have k02 := kN k1 k2
  obtain ⟨h3, e3, k3⟩ := l9Terms_run (base := base) m1 (hr.keep k02 fun _ _ h => h) (by omega)
  have n3 := k3.1
  have o3 := o2.keepN k3
  have k03 := kN k02 k3
  obtain ⟨h4, e4, k4⟩ := l9Terms_run (base := base) m2 (hx.keep k03 fun _ _ h => h) (by omega)
  have o4 := o3.keepN k4
  have k04 := kN k03 k4
  have e5 := l9Links_run (base := base) (v := A.pid) m3 (hk.keepN k04)
  have e6 := l1In_run (base := base) (h := h2) (x := A.pid) (a := 1) (b := 99999)
  have e7 := l1In_run (base := base) (h := h2) (x := A.pc) (a := 0) (b := IntKind.wrap .i64 ((l.length : Int) - (1 : Int)))
  have hJ : ∃ J : Bool, (codeOk l && (inB A.pid 1 99999 && (inB A.pc 0 (IntKind.wrap .i64 ((l.length : Int) - (1 : Int))) && (((A.regs.length : Int) == (8 : Int)) && decide ((A.box.length : Int) ≤ (30 : Int)))))) = J := ⟨_, rfl⟩
  obtain ⟨J, hJ⟩ := hJ
  have ev : acOk f l A = (J && (tsB f A.regs && (tsB f A.box && lkOk A.links A.pid))) := by
    rw [← hJ]
    unfold acOk
    cases codeOk l <;> cases inB A.pid 1 99999 <;> cases inB A.pc 0 (IntKind.wrap .i64 ((l.length : Int) - (1 : Int))) <;> cases ((A.regs.length : Int) == (8 : Int)) <;> cases tsB f A.regs <;> cases decide ((A.box.length : Int) ≤ (30 : Int)) <;> rfl
  rw [ev]
  have start : ∀ {r : Value × AH}, _ = some r → run (Et base) 60 [.slice c l.length l.length, .agg (acV A.pid A.pc a A.regs.length b A.box.length g A.links.length).toArray] h = some r := fun {r} hr => r60 (lets fun y ey => (by
    rw [ey, hh1]
    refine bj (q := ([some (.pointer (at0 h.length)), some (.bool (!J))], h2)) ?_ (bs rfl (bB rfl hr))
    refine bs e2 (bB rfl ?_)
    rw [← hJ]
    cases codeOk l with
    | false => exact ifT rfl rfl
    | true =>
      refine ifF (by decide) (bI (o2.at0 (i := 0) rfl) (bs e6 (bB rfl ?_)))
      cases inB A.pid 1 99999 with
      | false => exact ifT rfl rfl
      | true =>
        refine ifF (by decide) (bI (o2.at0 (i := 1) rfl) (bs e7 (bB rfl ?_)))
        cases inB A.pc 0 (IntKind.wrap .i64 ((l.length : Int) - (1 : Int))) with
        | false => exact ifT rfl rfl
        | true =>
          refine ifF (by decide) (bS (o2.at0 (i := 2) rfl) ?_)
          cases c4 : (A.regs.length : Int) == (8 : Int) with
          | false => exact ifT (by simp [bne, c4]) rfl
          | true =>
            refine ifF (by simp [bne, c4]) (bS (o2.at0 (i := 3) rfl) ?_)
            by_cases c6 : (A.box.length : Int) ≤ 30
            · rw [decide_eq_true c6, decide_eq_false (by omega)]; rfl
            · rw [decide_eq_false c6, decide_eq_true (by omega)]; rfl))
  cases J with
  | false => exact ⟨h2, start (ifT rfl rfl), k02⟩
  | true =>
    cases c5 : tsB f A.regs with
    | false => rw [c5] at e3; exact ⟨h3, start (ifF (by decide) (bS (o2.at0 (i := 2) rfl) (bs e3 (bB rfl (ifF (by decide) rfl))))), k03⟩
    | true =>
      rw [c5] at e3
      cases c7 : tsB f A.box with
      | false => rw [c7] at e4; exact ⟨h4, start (ifF (by decide) (bS (o2.at0 (i := 2) rfl) (bs e3 (bB rfl (ifT rfl (bS (o3.at0 (i := 3) rfl) (bs e4 (bB rfl (ifF (by decide) rfl))))))))), k04⟩
      | true => rw [c7] at e4; exact ⟨h4, start (ifF (by decide) (bS (o2.at0 (i := 2) rfl) (bs e3 (bB rfl (ifT rfl (bS (o3.at0 (i := 3) rfl) (bs e4 (bB rfl (ifT rfl (bS (o4.at0 (i := 4) rfl) (bI (o4.at0 (i := 0) rfl) (bs e5 (bB rfl rfl))))))))))))), k04⟩

theorem AcB.le {f : Nat} {A : Ac} (x : AcB f A) : A.Le ∧ AcM A := by
  obtain ⟨h1, h2, h3, _⟩ := x
  exact ⟨⟨by simp only [maxLen]; omega, by simp only [maxLen]; omega, by omega⟩, by omega, by omega, by omega⟩
/-! as it is read -/
set_option maxRecDepth 100000 in
theorem rd_terms {h : AH} {f : Nat} {u : Value} (x : Rd Try.prog h f 23 [u]) : ∃ a l, u = .slice a (List.length l) (List.length l) ∧ l.length ≤ maxLen ∧ TsR h (· < h.length) f l a := by
  have cT : Try.prog.cellsOf 25 = 4 := by kernel_rfl
  match f, x with
  | 0, x => exact x.elim
  | f + 1, x =>
    simp only [Rd, Try.underlying23] at x
    obtain ⟨a, n, vs, e, h2, h3, h4, h5⟩ := x
    injection e with e _
    subst e
    rw [cT] at h4 h5
    have each : ∀ i, i < n → ∃ t, TmR h (· < h.length) f t ((vs.drop (i * 4)).take 4) := fun i hi => rd_term f _ (h5 i hi)
    let g : Nat → Tm := fun i => if hi : i < n then (each i hi).choose else .mk 0 0 ⟨#[]⟩ []
    have hg : ∀ i, i < n → TmR h (· < h.length) f (g i) ((vs.drop (i * 4)).take 4) := by
      intro i hi
      simp only [g, hi, dite_true]
      exact (each i hi).choose_spec
    refine ⟨a, (List.range n).map g, by simp, by simpa using h2, vs, h3, sl_below h3, by simpa using h4, fun i t hi => ?_⟩
    have hlt : i < n := by have := (List.getElem?_eq_some_iff.1 hi).1; simpa using this
    simp [hlt] at hi
    subst hi
    exact TmR.up _ _ _ (hg i hlt)
end Go.Proofs.Ytolcnednfbbnnaa.Am


set_option linter.unusedSimpArgs false
set_option linter.unusedVariables false
namespace Go.Proofs.Ytolcnednfbbnnaa.Am
open Go Go.RowKit

theorem specStepActor_run {base f : Nat} {h : AH} {S : Fp} {l : List In} {c : Option Addr} {A : Ac} {cs : List Value} {next : Int} (hL : ∀ x ∈ l, x.s.size ≤ 9223372036854775807) (hl : l.length ≤ 9223372036854775807) (hc : Sl h c (insR l)) (hBA : AcB (f + 1) A) (x : AcG base (f + 1) S h A cs) (hS : ∀ b, S b → b < h.length) (hb : base ≤ h.length) :
    Wp (run (Et base) 21 [.slice c l.length l.length, .agg cs.toArray, .int .i64 next] h) (StepQ base (f + 2) h (stepA f l A next)) := by
  have x' := x
  obtain ⟨a, b, g, rfl⟩ := x.form2
  have d := (Hs.start hb).inp S _ x' (fun U h h' k hs x => AcG.kp _ _ _ U h h' _ _ k hs x) hS (fun x hx => nomatch hx) rfl
  refine W.of (fun r hx => r21 hx) ?_
  ((try simp only [n1, n2, n3, n4, n5, n6] at d); (with_reducible repeat first | refine W.a1 d ?_ | refine W.a2 ?_ | refine W.a3 ?_ | refine W.bo ?_ | refine W.a5 d fun hw d lw kw => ?_ | refine W.a6 d ?_ | refine W.a7 ?_ | refine W.a8 ?_); (refine W.nD d fun h1 d _ => ?_); (with_reducible repeat first | refine W.a1 d ?_ | refine W.a2 ?_ | refine W.a3 ?_ | refine W.bo ?_ | refine W.a5 d fun hw d lw kw => ?_ | refine W.a6 d ?_ | refine W.a7 ?_ | refine W.a8 ?_); (refine W.nD d fun h2 d _ => ?_); (with_reducible repeat first | refine W.a1 d ?_ | refine W.a2 ?_ | refine W.a3 ?_ | refine W.bo ?_ | refine W.a5 d fun hw d lw kw => ?_ | refine W.a6 d ?_ | refine W.a7 ?_ | refine W.a8 ?_); (refine W.nD d fun h3 d _ => ?_); (with_reducible repeat first | refine W.a1 d ?_ | refine W.a2 ?_ | refine W.a3 ?_ | refine W.bo ?_ | refine W.a5 d fun hw d lw kw => ?_ | refine W.a6 d ?_ | refine W.a7 ?_ | refine W.a8 ?_))
  unfold stepA
  apply W.jb (!(acOk (f + 1) l A && inB next 1 99999)) d
  · ((try simp only [n1, n2, n3, n4, n5, n6] at d); (with_reducible repeat first | refine W.a1 d ?_ | refine W.a2 ?_ | refine W.a3 ?_ | refine W.bo ?_ | refine W.a5 d fun hw d lw kw => ?_ | refine W.a6 d ?_ | refine W.a7 ?_ | refine W.a8 ?_))
    obtain ⟨h4, e4, k4⟩ := specActorOk_run (base := base) hL hl (hc.keepN d.kb) hBA.M (AcG.acR (d.rs (i := 0) rfl)) d.ge
    have d := d.kN k4
    refine W.bs e4 ?_
    ((try simp only [n1, n2, n3, n4, n5, n6] at d); (with_reducible repeat first | refine W.a1 d ?_ | refine W.a2 ?_ | refine W.a3 ?_ | refine W.bo ?_ | refine W.a5 d fun hw d lw kw => ?_ | refine W.a6 d ?_ | refine W.a7 ?_ | refine W.a8 ?_))
    refine W.ite (fun c => ?_) (fun c => ?_)
    · have c' : acOk (f + 1) l A = false := by simpa using c
      rw [c']
      exact W.lb rfl rfl k4
    · have c' : acOk (f + 1) l A = true := by simpa using c
      refine W.bs l1In_run ?_
      ((try simp only [n1, n2, n3, n4, n5, n6] at d); (with_reducible repeat first | refine W.a1 d ?_ | refine W.a2 ?_ | refine W.a3 ?_ | refine W.bo ?_ | refine W.a5 d fun hw d lw kw => ?_ | refine W.a6 d ?_ | refine W.a7 ?_ | refine W.a8 ?_))
      rw [c', Bool.true_and]
      exact W.lb rfl rfl k4
  intro h5 d n5
  ((try simp only [n1, n2, n3, n4, n5, n6] at d); (with_reducible repeat first | refine W.a1 d ?_ | refine W.a2 ?_ | refine W.a3 ?_ | refine W.bo ?_ | refine W.a5 d fun hw d lw kw => ?_ | refine W.a6 d ?_ | refine W.a7 ?_ | refine W.a8 ?_))
  refine W.ite (fun c => ?_) (fun c => ?_)
  · rw [if_pos c]
    ((try simp only [n1, n2, n3, n4, n5, n6] at d); (with_reducible repeat first | refine W.a1 d ?_ | refine W.a2 ?_ | refine W.a3 ?_ | refine W.bo ?_ | refine W.a5 d fun hw d lw kw => ?_ | refine W.a6 d ?_ | refine W.a7 ?_ | refine W.a8 ?_))
    obtain ⟨csF, h6, e6, AF, k6⟩ := l9Copy_run (base := base) hBA (AcG.acR (d.rs (i := 0) rfl)) d.ge (d.rlt (i := 0) rfl)
    obtain ⟨a4, b4, g4, rfl⟩ := AF.form2
    have d := d.callP (AcG.kp _ _) k6 AF
    refine W.bs e6 ?_
    ((try simp only [n1, n2, n3, n4, n5, n6] at d); (with_reducible repeat first | refine W.a1 d ?_ | refine W.a2 ?_ | refine W.a3 ?_ | refine W.bo ?_ | refine W.a5 d fun hw d lw kw => ?_ | refine W.a6 d ?_ | refine W.a7 ?_ | refine W.a8 ?_))
    have hA : AcG base (f + 1) _ _ A _ := d.rs (i := 1) rfl
    exact W.ret (StepQ.of d (i := 1) rfl (hA.le (by omega)) (T := fun _ => False) tmZ_G (fun _ _ h => h) (fun _ h => h.elim))
  · rw [if_neg c]
    have c' : acOk (f + 1) l A = true ∧ inB next 1 99999 = true := by simpa using c
    ((try simp only [n1, n2, n3, n4, n5, n6] at d); (with_reducible repeat first | refine W.a1 d ?_ | refine W.a2 ?_ | refine W.a3 ?_ | refine W.bo ?_ | refine W.a5 d fun hw d lw kw => ?_ | refine W.a6 d ?_ | refine W.a7 ?_ | refine W.a8 ?_))
    refine W.wb (l9Step_run (f := f) (next := next) (hc.keepN d.kb) hBA (d.rs (i := 0) rfl) (d.rlt (i := 0) rfl) d.ge c'.1) ?_
    generalize stepF (f + 2) (l.getD A.pc.toNat in0) A next = R
    rintro ⟨u, h6⟩ ⟨cs6, k6, n6, s6, a6, m6, S6, T6, rfl, gA, gT, gd, gS, gT2, kk⟩
    obtain ⟨a7, b7, g7, rfl⟩ := gA.form2
    have d := d.call2 kk S6 T6 (fun y => AcG base (f + 2) S6 y R.1 _) (fun y => TmG base (f + 2) T6 y R.2.t _) gA gT (fun U y y' k hs x => AcG.kp _ _ _ U y y' _ _ k hs x) (fun U y y' k hs x => TmG.kp _ _ _ U y y' _ _ k hs x) gS gT2 gd
    ((try simp only [n1, n2, n3, n4, n5, n6] at d); (with_reducible repeat first | refine W.a1 d ?_ | refine W.a2 ?_ | refine W.a3 ?_ | refine W.bo ?_ | refine W.a5 d fun hw d lw kw => ?_ | refine W.a6 d ?_ | refine W.a7 ?_ | refine W.a8 ?_))
    have hA : AcG base (f + 2) _ _ _ _ := d.rs (i := 1) rfl
    have hT : TmG base (f + 2) _ _ _ _ := d.rs (i := 2) rfl
    exact W.ret (StepQ.of d (i := 1) rfl hA hT gd (fun b hb => ⟨(d.rfr (i := 2) rfl rfl b hb).resolve_left fun h => h, d.rlt (i := 2) rfl b hb⟩))
end Go.Proofs.Ytolcnednfbbnnaa.Am


set_option linter.unusedSimpArgs false
set_option linter.unusedVariables false
namespace Go.Proofs.Ytolcnednfbbnnaa.Am
open Go Go.RowKit

end Go.Proofs.Ytolcnednfbbnnaa.Am


set_option linter.unusedSimpArgs false
set_option linter.unusedVariables false
namespace Go.Proofs.Ytolcnednfbbnnaa.Am
open Go Go.RowKit

theorem AcR.form2 {h : AH} {p : Nat → Prop} {f : Nat} {A : Ac} {cs : List Value} (x : AcR h p f A cs) : ∃ a b g, cs = acV A.pid A.pc a A.regs.length b A.box.length g A.links.length := by
  obtain ⟨a, b, g, e, _⟩ := x
  exact ⟨a, b, g, e⟩
theorem tcnt_up : ∀ {f f' : Nat} {t : Tm}, TmB f t → f ≤ f' → tcnt f' t = tcnt f t
  | 0, _, _, h, _ => h.elim
  | f + 1, 0, _, _, h => absurd h (Nat.not_succ_le_zero _)
  | f + 1, f' + 1, .mk k n s l, h, hf => by
    obtain ⟨_, _, h3⟩ := h
    simp only [tcnt]
    have : ∀ r : List Tm, (∀ t ∈ r, TmB f t) → sumL (tcnt f') r = sumL (tcnt f) r := by
      intro r
      induction r with
      | nil => intro _; rfl
      | cons t r ih => intro hr; simp only [sumL]; rw [tcnt_up (hr t (by simp)) (Nat.le_of_succ_le_succ hf), ih fun u hu => hr u (by simp [hu])]
    rw [this l h3]
theorem sumL_up {f f' : Nat} (hf : f ≤ f') : ∀ {r : List Tm}, (∀ t ∈ r, TmB f t) → sumL (tcnt f') r = sumL (tcnt f) r
  | [], _ => rfl
  | t :: r, hr => by simp only [sumL]; rw [tcnt_up (hr t (by simp)) hf, sumL_up hf fun u hu => hr u (by simp [hu])]
theorem sumL_set {g : Tm → Nat} : ∀ {r : List Tm} {i : Nat} {t : Tm}, sumL g (r.set i t) ≤ sumL g r + g t
  | [], _, _ => by simp [sumL]
  | x :: r, 0, t => by simp only [List.set_cons_zero, sumL]; omega
  | x :: r, i + 1, t => by have := sumL_set (g := g) (r := r) (i := i) (t := t); simp only [List.set_cons_succ, sumL]; omega
theorem sumL_mem {g : Tm → Nat} : ∀ {r : List Tm} {t : Tm}, t ∈ r → g t ≤ sumL g r
  | x :: r, t, h => by
    rcases List.mem_cons.1 h with rfl | h
    · simp only [sumL]; omega
    · have := sumL_mem (g := g) h; simp only [sumL]; omega
def acW (f : Nat) (A : Ac) : Nat := A.regs.length + sumL (tcnt f) A.regs + (A.box.length + sumL (tcnt f) A.box) + A.links.length
theorem acW_mc (f : Nat) (A : Ac) : 0 ≤ mcA f A ∧ mcA f A ≤ 3 * (acW f A : Int) := by unfold mcA mcL acW; omega
/-- The outcome of a step is no greater than what it came from, but for one right term. -/
theorem stepF_le {f : Nat} {x : In} {A : Ac} {next : Int} (hB : AcB (f + 1) A) (hx : InB x) (h8 : A.regs.length = 8) : (stepF (f + 2) x A next).1.Le ∧ acW (f + 2) (stepF (f + 2) x A next).1 ≤ acW (f + 1) A + 100 ∧ tcnt (f + 2) (stepF (f + 2) x A next).2.t ≤ acW (f + 1) A + 100 := by
  obtain ⟨m1, m2, m3, m4, m5⟩ := hB
  have eR := sumL_up (show f + 1 ≤ f + 2 by omega) m4
  have eX := sumL_up (show f + 1 ≤ f + 2 by omega) m5
  have hLe : A.Le := ⟨by simp only [maxLen]; omega, by simp only [maxLen]; omega, by omega⟩
  have hW : acW (f + 2) A = acW (f + 1) A := by unfold acW; rw [eR, eX]
  have hr : ∀ {i : Int}, tcnt (f + 2) (rg A.regs i) ≤ acW (f + 1) A := by
    intro i
    by_cases hi : i.toNat < A.regs.length
    · have e : rg A.regs i = A.regs[i.toNat] := by unfold rg; simp [hi]
      have hm := List.getElem_mem hi
      have h1 := sumL_mem (g := tcnt (f + 2)) hm
      rw [e]
      unfold acW
      omega
    · have e : rg A.regs i = tmZ := by unfold rg; simp at hi; simp [hi]
      rw [e]
      simp [tmZ, tcnt, sumL]
  have hacts : tcnt (f + 2) (actsF x A.regs next).1.t ≤ acW (f + 1) A + 100 := by
    have z : tcnt (f + 2) tmZ = 0 := rfl
    unfold actsF
    split
    · have := hr (i := x.b); show tcnt (f + 2) (rg A.regs x.b) ≤ _; omega
    split
    · have := hr (i := x.b); show tcnt (f + 2) (rg A.regs x.b) ≤ _; omega
    split
    · have := hr (i := x.a); show tcnt (f + 2) (rg A.regs x.a) ≤ _; omega
    split
    · show tcnt (f + 2) tmZ ≤ _; omega
    split
    · have := hr (i := x.a); show tcnt (f + 2) (rg A.regs x.a) ≤ _; omega
    · show tcnt (f + 2) tmZ ≤ _; omega
  have zf : tcnt (f + 2) fltA.t = 0 := rfl
  have zz : tcnt (f + 2) tmZ = 0 := rfl
  unfold stepF
  split
  · exact ⟨hLe, by show acW (f + 2) A ≤ _; omega, by show tcnt (f + 2) fltA.t ≤ _; omega⟩
  split
  · exact ⟨hLe, by show acW (f + 2) A ≤ _; omega, hacts⟩
  by_cases hbx : (if (x.op == (14 : Int)) = true then ((A.box.length : Int) == (0 : Int)) else false) = true
  · rw [if_pos hbx]
    exact ⟨hLe, by show acW (f + 2) A ≤ _; omega, by show tcnt (f + 2) tmZ ≤ _; omega⟩
  rw [if_neg hbx]
  cases hn : nextF (f + 2) x A next with
  | none => exact ⟨hLe, by show acW (f + 2) A ≤ _; omega, by show tcnt (f + 2) fltA.t ≤ _; omega⟩
  | some q =>
    obtain ⟨R, B⟩ := q
    have key : R.length = A.regs.length ∧ B.length ≤ A.box.length ∧ R.length + sumL (tcnt (f + 2)) R + (B.length + sumL (tcnt (f + 2)) B) ≤ A.regs.length + sumL (tcnt (f + 1)) A.regs + (A.box.length + sumL (tcnt (f + 1)) A.box) + 100 := by
      unfold nextF at hn
      split at hn
      · injection hn with hn
        injection hn with h1 h2
        subst h1; subst h2
        cases hbox : A.box with
        | nil =>
          rename_i h14
          rw [if_pos h14, hbox] at hbx
          exact absurd rfl hbx
        | cons t0 B0 =>
          rw [hbox] at eX
          have := sumL_set (g := tcnt (f + 2)) (r := A.regs) (i := x.a.toNat) (t := t0)
          simp only [List.drop_succ_cons, List.drop_zero, List.length_set, List.length_cons, List.getD_cons_zero, sumL] at eX ⊢
          refine ⟨trivial, ?_, ?_⟩ <;> omega
      split at hn
      · split at hn
        · cases hn
        · rename_i t ht
          split at hn
          · rename_i hok
            injection hn with hn
            injection hn with h1 h2
            subst h1; subst h2
            have := (tOk_B hok).2
            have := sumL_set (g := tcnt (f + 2)) (r := A.regs) (i := x.a.toNat) (t := t)
            simp only [List.length_set]
            refine ⟨trivial, ?_, ?_⟩ <;> omega
          · cases hn
      · injection hn with hn
        injection hn with h1 h2
        subst h1; subst h2
        omega
    refine ⟨⟨by simp only [maxLen]; omega, by simp only [maxLen]; omega, by show A.links.length ≤ _; omega⟩, ?_, hacts⟩
    show acW (f + 2) ⟨A.pid, _, R, B, A.links⟩ ≤ _
    unfold acW
    simp only
    omega
theorem stepA_le {f : Nat} {l : List In} {A : Ac} {next : Int} (hB : AcB (f + 1) A) : (stepA f l A next).1.Le ∧ acW (f + 2) (stepA f l A next).1 ≤ acW (f + 1) A + 100 ∧ tcnt (f + 2) (stepA f l A next).2.t ≤ acW (f + 1) A + 100 := by
  unfold stepA
  split
  · obtain ⟨m1, m2, m3, m4, m5⟩ := hB
    have eR := sumL_up (show f + 1 ≤ f + 2 by omega) m4
    have eX := sumL_up (show f + 1 ≤ f + 2 by omega) m5
    exact ⟨⟨by simp only [maxLen]; omega, by simp only [maxLen]; omega, by show A.links.length ≤ _; omega⟩, by show acW (f + 2) A ≤ _; unfold acW; omega, by show tcnt (f + 2) tmZ ≤ _; simp [tmZ, tcnt, sumL]⟩
  · rename_i hok
    have hok : acOk (f + 1) l A = true ∧ inB next 1 99999 = true := by simpa using hok
    obtain ⟨hcode, ⟨pc0, pcl⟩, hR8, _⟩ := acOk_parts hok.1
    have hpc : A.pc.toNat < l.length := by omega
    have el : l.getD A.pc.toNat in0 = l[A.pc.toNat] := by simp [hpc]
    rw [el]
    exact stepF_le hB (codeOk_bd hcode _ (List.getElem_mem hpc)) hR8

/-! acts -/
/-- A term's marks, told. -/
theorem markTermI_run {base f : Nat} {h : AH} {S : Fp} {kk n : Int} {s : ByteArray} {l : List Tm} {a : Option Addr} {m : Nat} {k : Int} (x : TmD (f + 1) S h (.mk kk n s l) (termV kk n s a m)) (hS : ∀ b, S b → base ≤ b ∧ b < h.length) (hb : base ≤ h.length) (h0 : 0 ≤ k) (hk : k + 3 * ((tcnt (f + 1) (.mk kk n s l) : Nat) : Int) ≤ 1000000000) :
    ∃ l' h', run (Et base) 17 [.agg (termV kk n s a m).toArray, .int .i64 k] h = some (.int .i64 (k + 3 * ((tcnt (f + 1) (.mk kk n s l) : Nat) : Int)), h') ∧ TmD (f + 1) S h' (.mk kk n s l') (termV kk n s a m) ∧ IsM l' k (k + 3 * ((tcnt (f + 1) (.mk kk n s l) : Nat) : Int)) ∧ KB S h h' := by
  obtain ⟨h1, h2, a', e, r⟩ := x
  injection e with _ e
  injection e with _ e
  injection e with _ e
  injection e with e _
  injection e with e e2 _
  subst e; subst e2
  obtain ⟨o1, k1, q1⟩ := box_own (base := base) (t := 38) (h := h) (cs := termV kk n s a l.length) hb rfl
  generalize hh1 : h ++ [some (⟨termV kk n s a l.length, 38⟩ : Blk)] = h1 at o1 k1 q1
  simp only [tcnt] at hk ⊢
  obtain ⟨l', h3, e3, r3, len3, m3, k3⟩ := markTermS_run (base := base) f l h1 S a k (r.keep (TmD.kp _) k1 fun _ _ h => h) h2 (fun b hb => by have := hS b hb; omega) h0 (by omega)
  refine ⟨l', h3, r17 (lets fun y ey => ?_), ⟨‹s.size ≤ maxLen›, by omega, a, by rw [len3], r3⟩, m3, KB.trans k1 k3 (fun _ _ h => h.elim) (fun _ _ h => h)⟩
  rw [hh1] at ey
  subst ey
  exact bS (o1.at0 (i := 3) rfl) (bs e3 (bI rfl rfl))
theorem heldTermI_run {base f : Nat} {h : AH} {p : Nat → Prop} {kk n : Int} {s : ByteArray} {l : List Tm} {a : Option Addr} {m : Nat} {k k' : Int} (x : TmR h p (f + 1) (.mk kk n s l) (termV kk n s a m)) (hm : IsM l k k') (h0 : 0 ≤ k) (hk : k' ≤ 1000000000) (hb : base ≤ h.length) :
    ∃ h', run (Et base) 78 [.agg (termV kk n s a m).toArray, .int .i64 k] h = some (.int .i64 k', h') ∧ KB NoB h h' := by
  obtain ⟨l2, e, rfl, r, _, hl⟩ := x.opn
  injection e with _ _ _ e
  subst e
  simp only [maxLen] at hl
  refine Wp.run (P := fun h' => KB NoB h h') ?_
  refine W.of (fun r hx => r78 hx) ?_
  have d := Hs.start hb
  ((try simp only [n1, n2, n3, n4, n5, n6] at d); (with_reducible repeat first | refine W.a1 d ?_ | refine W.a2 ?_ | refine W.a3 ?_ | refine W.bo ?_ | refine W.a5 d fun hw d lw kw => ?_ | refine W.a6 d ?_ | refine W.a7 ?_ | refine W.a8 ?_); (refine W.nD d fun h1 d _ => ?_); (with_reducible repeat first | refine W.a1 d ?_ | refine W.a2 ?_ | refine W.a3 ?_ | refine W.bo ?_ | refine W.a5 d fun hw d lw kw => ?_ | refine W.a6 d ?_ | refine W.a7 ?_ | refine W.a8 ?_))
  obtain ⟨h2, e2, k2⟩ := heldTermS_run (base := base) hm h0 hk (by omega) (r.keep d.kb fun _ _ h => h) d.ge
  have d := d.kN k2
  refine W.bs e2 ?_
  ((try simp only [n1, n2, n3, n4, n5, n6] at d); (with_reducible repeat first | refine W.a1 d ?_ | refine W.a2 ?_ | refine W.a3 ?_ | refine W.bo ?_ | refine W.a5 d fun hw d lw kw => ?_ | refine W.a6 d ?_ | refine W.a7 ?_ | refine W.a8 ?_))
  have := hm.le
  exact W.ifF (by simp; omega) (W.ret ⟨rfl, d.kb⟩)
theorem eqAct_run {base f f2 : Nat} {h : AH} {p p2 : Nat → Prop} {kd pid pc k n k2 n2 : Int} {s s2 : ByteArray} {a a2 : Option Addr} {m m2 : Nat} {t : Tm} (x : TmR h p f t (termV k n s a m)) (x2 : TmR h p2 f2 t (termV k2 n2 s2 a2 m2)) (hb : base ≤ h.length) :
    ∃ h', run (Et base) 25 [.agg (actV kd pid pc k n s a m).toArray, .agg (actV kd pid pc k2 n2 s2 a2 m2).toArray] h = some (.bool true, h') ∧ KB NoB h h' := by
  refine Wp.run (P := fun h' => KB NoB h h') ?_
  refine W.of (fun r hx => r25 hx) ?_
  have d := Hs.start hb
  ((try simp only [n1, n2, n3, n4, n5, n6] at d); (with_reducible repeat first | refine W.a1 d ?_ | refine W.a2 ?_ | refine W.a3 ?_ | refine W.bo ?_ | refine W.a5 d fun hw d lw kw => ?_ | refine W.a6 d ?_ | refine W.a7 ?_ | refine W.a8 ?_); (refine W.nD d fun h1 d _ => ?_); (with_reducible repeat first | refine W.a1 d ?_ | refine W.a2 ?_ | refine W.a3 ?_ | refine W.bo ?_ | refine W.a5 d fun hw d lw kw => ?_ | refine W.a6 d ?_ | refine W.a7 ?_ | refine W.a8 ?_); (refine W.nD d fun h2 d _ => ?_); (with_reducible repeat first | refine W.a1 d ?_ | refine W.a2 ?_ | refine W.a3 ?_ | refine W.bo ?_ | refine W.a5 d fun hw d lw kw => ?_ | refine W.a6 d ?_ | refine W.a7 ?_ | refine W.a8 ?_))
  refine W.ifF (by simp) ?_
  ((try simp only [n1, n2, n3, n4, n5, n6] at d); (with_reducible repeat first | refine W.a1 d ?_ | refine W.a2 ?_ | refine W.a3 ?_ | refine W.bo ?_ | refine W.a5 d fun hw d lw kw => ?_ | refine W.a6 d ?_ | refine W.a7 ?_ | refine W.a8 ?_))
  refine W.ifF (by simp) ?_
  ((try simp only [n1, n2, n3, n4, n5, n6] at d); (with_reducible repeat first | refine W.a1 d ?_ | refine W.a2 ?_ | refine W.a3 ?_ | refine W.bo ?_ | refine W.a5 d fun hw d lw kw => ?_ | refine W.a6 d ?_ | refine W.a7 ?_ | refine W.a8 ?_))
  refine W.ifF (by simp) ?_
  ((try simp only [n1, n2, n3, n4, n5, n6] at d); (with_reducible repeat first | refine W.a1 d ?_ | refine W.a2 ?_ | refine W.a3 ?_ | refine W.bo ?_ | refine W.a5 d fun hw d lw kw => ?_ | refine W.a6 d ?_ | refine W.a7 ?_ | refine W.a8 ?_))
  obtain ⟨h3, e3, k3⟩ := eqTerm_run (base := base) f f2 h2 p p2 t _ _ (TmR.keep d.kb (fun _ _ h => h) _ _ _ x) (TmR.keep d.kb (fun _ _ h => h) _ _ _ x2) d.ge
  have d := d.kN k3
  refine W.bs e3 ?_
  ((try simp only [n1, n2, n3, n4, n5, n6] at d); (with_reducible repeat first | refine W.a1 d ?_ | refine W.a2 ?_ | refine W.a3 ?_ | refine W.bo ?_ | refine W.a5 d fun hw d lw kw => ?_ | refine W.a6 d ?_ | refine W.a7 ?_ | refine W.a8 ?_))
  exact W.ifF (by decide) (W.ret ⟨rfl, d.kb⟩)
theorem markAct_run {base f : Nat} {h : AH} {S : Fp} {kd pid pc kk n : Int} {s : ByteArray} {l : List Tm} {a : Option Addr} {m : Nat} {k : Int} (x : TmD (f + 1) S h (.mk kk n s l) (termV kk n s a m)) (hS : ∀ b, S b → base ≤ b ∧ b < h.length) (hb : base ≤ h.length) (h0 : 0 ≤ k) (hk : k + 3 * ((tcnt (f + 1) (.mk kk n s l) : Nat) : Int) ≤ 1000000000) :
    ∃ l' h', run (Et base) 27 [.agg (actV kd pid pc kk n s a m).toArray, .int .i64 k] h = some (.int .i64 (k + 3 * ((tcnt (f + 1) (.mk kk n s l) : Nat) : Int)), h') ∧ TmD (f + 1) S h' (.mk kk n s l') (termV kk n s a m) ∧ IsM l' k (k + 3 * ((tcnt (f + 1) (.mk kk n s l) : Nat) : Int)) ∧ KB S h h' := by
  suffices w : Wp (run (Et base) 27 [.agg (actV kd pid pc kk n s a m).toArray, .int .i64 k] h) fun r => r.1 = .int .i64 (k + 3 * ((tcnt (f + 1) (.mk kk n s l) : Nat) : Int)) ∧ ∃ l', TmD (f + 1) S r.2 (.mk kk n s l') (termV kk n s a m) ∧ IsM l' k (k + 3 * ((tcnt (f + 1) (.mk kk n s l) : Nat) : Int)) ∧ KB S h r.2 by
    obtain ⟨⟨u, h'⟩, e, q, l', q2⟩ := w
    exact ⟨l', h', by rw [e]; simp only at q; rw [q], q2⟩
  refine W.of (fun r hx => r27 hx) ?_
  have d := Hs.start hb
  ((try simp only [n1, n2, n3, n4, n5, n6] at d); (with_reducible repeat first | refine W.a1 d ?_ | refine W.a2 ?_ | refine W.a3 ?_ | refine W.bo ?_ | refine W.a5 d fun hw d lw kw => ?_ | refine W.a6 d ?_ | refine W.a7 ?_ | refine W.a8 ?_); (refine W.nD d fun h1 d _ => ?_); (with_reducible repeat first | refine W.a1 d ?_ | refine W.a2 ?_ | refine W.a3 ?_ | refine W.bo ?_ | refine W.a5 d fun hw d lw kw => ?_ | refine W.a6 d ?_ | refine W.a7 ?_ | refine W.a8 ?_))
  have n1 := d.kb.1
  obtain ⟨l', h2, e2, t2, m2, k2⟩ := markTermI_run (base := base) (k := k) (TmD.kp _ _ _ _ _ _ _ d.kb (fun _ _ h => h) x) (fun b hb => by have := hS b hb; omega) d.ge h0 hk
  refine W.bs e2 ?_
  ((try simp only [n1, n2, n3, n4, n5, n6] at d); (with_reducible repeat first | refine W.a1 d ?_ | refine W.a2 ?_ | refine W.a3 ?_ | refine W.bo ?_ | refine W.a5 d fun hw d lw kw => ?_ | refine W.a6 d ?_ | refine W.a7 ?_ | refine W.a8 ?_))
  exact W.ret ⟨rfl, l', t2, m2, KB.trans d.kb k2 (fun _ _ h => h.elim) (fun _ _ h => h)⟩
theorem heldAct_run {base f : Nat} {h : AH} {p : Nat → Prop} {kd pid pc kk n : Int} {s : ByteArray} {l : List Tm} {a : Option Addr} {m : Nat} {k k' : Int} (x : TmR h p (f + 1) (.mk kk n s l) (termV kk n s a m)) (hm : IsM l k k') (h0 : 0 ≤ k) (hk : k' ≤ 1000000000) (hb : base ≤ h.length) :
    ∃ h', run (Et base) 29 [.agg (actV kd pid pc kk n s a m).toArray, .int .i64 k] h = some (.int .i64 k', h') ∧ KB NoB h h' := by
  refine Wp.run (P := fun h' => KB NoB h h') ?_
  refine W.of (fun r hx => r29 hx) ?_
  have d := Hs.start hb
  ((try simp only [n1, n2, n3, n4, n5, n6] at d); (with_reducible repeat first | refine W.a1 d ?_ | refine W.a2 ?_ | refine W.a3 ?_ | refine W.bo ?_ | refine W.a5 d fun hw d lw kw => ?_ | refine W.a6 d ?_ | refine W.a7 ?_ | refine W.a8 ?_); (refine W.nD d fun h1 d _ => ?_); (with_reducible repeat first | refine W.a1 d ?_ | refine W.a2 ?_ | refine W.a3 ?_ | refine W.bo ?_ | refine W.a5 d fun hw d lw kw => ?_ | refine W.a6 d ?_ | refine W.a7 ?_ | refine W.a8 ?_))
  obtain ⟨h2, e2, k2⟩ := heldTermI_run (base := base) (TmR.keep d.kb (fun _ _ h => h) _ _ _ x) hm h0 hk d.ge
  have d := d.kN k2
  refine W.bs e2 ?_
  ((try simp only [n1, n2, n3, n4, n5, n6] at d); (with_reducible repeat first | refine W.a1 d ?_ | refine W.a2 ?_ | refine W.a3 ?_ | refine W.bo ?_ | refine W.a5 d fun hw d lw kw => ?_ | refine W.a6 d ?_ | refine W.a7 ?_ | refine W.a8 ?_))
  have := hm.le
  exact W.ifF (by simp; omega) (W.ret ⟨rfl, d.kb⟩)
end Go.Proofs.Ytolcnednfbbnnaa.Am


set_option linter.unusedSimpArgs false
set_option linter.unusedVariables false
namespace Go.Proofs.Ytolcnednfbbnnaa.Am
open Go Go.RowKit

/-- A row of actors that can be read. -/
def AsR (h : AH) (p : Nat → Prop) (f : Nat) (l : List Ac) (a : Option Addr) : Prop :=
  ∃ vs, Sl h a vs ∧ (vs = [] ∨ ∀ b, blk a b → p b) ∧ vs.length = l.length * 5 ∧ ∀ i x, l[i]? = some x → AcR h p f x (chunk 5 i vs)
theorem AsR.keep {h h' : AH} {p S : Nat → Prop} (k : KB S h h') (hp : ∀ b, p b → ¬ S b) {f : Nat} {l : List Ac} {a : Option Addr} (x : AsR h p f l a) : AsR h' p f l a := by
  obtain ⟨vs, h4, h5, h6, h7⟩ := x
  refine ⟨vs, ?_, h5, h6, fun i t hi => (h7 i t hi).keep k hp⟩
  rcases h5 with e | h5
  · exact .inl e
  · exact h4.keep k fun b hb hs => hp b (h5 b hb) hs
theorem AsR.keepN {h h' : AH} {p : Nat → Prop} (k : KB NoB h h') {f : Nat} {l : List Ac} {a : Option Addr} (x : AsR h p f l a) : AsR h' p f l a := x.keep k fun _ _ h => h
theorem AcR.mono {h : AH} {p q : Nat → Prop} (hpq : ∀ b, p b → q b) {f : Nat} {A : Ac} {cs : List Value} (x : AcR h p f A cs) : AcR h q f A cs := by
  obtain ⟨a, b, g, e, h1, h2, h3, h4⟩ := x
  exact ⟨a, b, g, e, h1.mono hpq, h2.mono hpq, h3, h4.imp id fun k y hy => hpq y (k y hy)⟩
theorem AsR.get {h : AH} {p : Nat → Prop} {f : Nat} {l : List Ac} {al : Option Addr} (x : AsR h p f l al) {i : Nat} (hi : i < l.length) :
    ∃ ad a b g, al = some ad ∧ ad.block < h.length ∧ Am.cell h ad.block (ad.off + i * 5) = some (.int .i64 l[i].pid) ∧ Am.cell h ad.block (ad.off + i * 5 + 1) = some (.int .i64 l[i].pc) ∧ Am.cell h ad.block (ad.off + i * 5 + 1 + 1) = some (.slice a l[i].regs.length l[i].regs.length) ∧
      Am.cell h ad.block (ad.off + i * 5 + 1 + 1 + 1) = some (.slice b l[i].box.length l[i].box.length) ∧ Am.cell h ad.block (ad.off + i * 5 + 1 + 1 + 1 + 1) = some (.slice g l[i].links.length l[i].links.length) ∧
      AcR h p f l[i] (acV l[i].pid l[i].pc a l[i].regs.length b l[i].box.length g l[i].links.length) ∧ Sl h g (iv .i64 l[i].links) := by
  obtain ⟨vs, h4, h5, h6, h7⟩ := x
  have hlt : i * 5 + 4 < vs.length := by omega
  have hm := h7 i l[i] (List.getElem?_eq_getElem hi)
  obtain ⟨a, b, g, ecs, q1, q2, q3, q4⟩ := hm
  have each : ∀ (j : Nat) (v : Value), (acV l[i].pid l[i].pc a l[i].regs.length b l[i].box.length g l[i].links.length)[j]? = some v → vs[i * 5 + j]? = some v := by
    intro j v hv
    have hj : j < 5 := by have := (List.getElem?_eq_some_iff.1 hv).1; simpa using this
    rw [← ecs] at hv
    unfold chunk at hv
    rw [List.getElem?_take_of_lt hj, List.getElem?_drop] at hv
    exact hv
  rcases h4 with e | ⟨ad, kk, e1, e2, e3, e4⟩
  · subst e; simp at hlt
  · have c : ∀ (j : Nat) (v : Value), (acV l[i].pid l[i].pc a l[i].regs.length b l[i].box.length g l[i].links.length)[j]? = some v → Am.cell h ad.block (ad.off + i * 5 + j) = some v := by
      intro j v hv
      have := e4 _ _ (each j v hv)
      rw [Nat.add_assoc]
      simp [Am.cell, e2, this]
    exact ⟨ad, a, b, g, e1, hget_lt e2, c 0 _ rfl, c 1 _ rfl, c 2 _ rfl, c 3 _ rfl, c 4 _ rfl, ⟨a, b, g, rfl, q1, q2, q3, q4⟩, q3⟩

end Go.Proofs.Ytolcnednfbbnnaa.Am


set_option linter.unusedSimpArgs false
set_option linter.unusedVariables false
namespace Go.Proofs.Ytolcnednfbbnnaa.Am
open Go Go.RowKit

structure Sd where
  kind : Int
  pid : Int
  t : Tm
def SsR (h : AH) (p : Nat → Prop) (f : Nat) (l : List Sd) (a : Option Addr) : Prop :=
  ∃ vs, Sl h a vs ∧ (vs = [] ∨ ∀ b, blk a b → p b) ∧ vs.length = l.length * 6 ∧ ∀ i x, l[i]? = some x → ∃ cs, (vs.drop (i * 6)).take 6 = .int .i64 x.kind :: .int .i64 x.pid :: cs ∧ TmR h p f x.t cs
theorem SsR.keep {h h' : AH} {p S : Nat → Prop} (k : KB S h h') (hp : ∀ b, p b → ¬ S b) {f : Nat} {l : List Sd} {a : Option Addr} (x : SsR h p f l a) : SsR h' p f l a := by
  obtain ⟨vs, h4, h5, h6, h7⟩ := x
  refine ⟨vs, ?_, h5, h6, fun i t hi => ?_⟩
  · rcases h5 with e | h5
    · exact .inl e
    · exact h4.keep k fun b hb hs => hp b (h5 b hb) hs
  · obtain ⟨cs, e, hm⟩ := h7 i t hi
    exact ⟨cs, e, TmR.keep k hp f _ _ hm⟩
theorem SsR.get {h : AH} {p : Nat → Prop} {f : Nat} {l : List Sd} {a : Option Addr} (x : SsR h p f l a) {i : Nat} (hi : i < l.length) :
    ∃ ad k n s a2 m, a = some ad ∧ ad.block < h.length ∧ Am.cell h ad.block (ad.off + i * 6) = some (.int .i64 l[i].kind) ∧ Am.cell h ad.block (ad.off + i * 6 + 1) = some (.int .i64 l[i].pid) ∧ Am.cell h ad.block (ad.off + i * 6 + 1 + 1) = some (.int .i64 k) ∧
      Am.cell h ad.block (ad.off + i * 6 + 1 + 1 + 1) = some (.int .i64 n) ∧ Am.cell h ad.block (ad.off + i * 6 + 1 + 1 + 1 + 1) = some (.string s) ∧ Am.cell h ad.block (ad.off + i * 6 + 1 + 1 + 1 + 1 + 1) = some (.slice a2 m m) ∧ TmR h p f l[i].t (termV k n s a2 m) := by
  obtain ⟨vs, h4, h5, h6, h7⟩ := x
  have hlt : i * 6 + 5 < vs.length := by omega
  obtain ⟨cs, ecs, hm⟩ := h7 i l[i] (List.getElem?_eq_getElem hi)
  cases f with
  | zero => exact hm.elim
  | succ f =>
    generalize ht : l[i].t = tt at hm
    obtain ⟨k, n, s, ll⟩ := tt
    obtain ⟨a2, rfl, _, _, _⟩ := hm.parts
    have each : ∀ (j : Nat) (v : Value), (Value.int .i64 l[i].kind :: .int .i64 l[i].pid :: termV k n s a2 ll.length)[j]? = some v → vs[i * 6 + j]? = some v := by
      intro j v hv
      have hj : j < 6 := by have := (List.getElem?_eq_some_iff.1 hv).1; simpa using this
      rw [← ecs, List.getElem?_take_of_lt hj, List.getElem?_drop] at hv
      exact hv
    rcases h4 with e | ⟨ad, kk, e1, e2, e3, e4⟩
    · subst e; simp at hlt
    · have c : ∀ (j : Nat) (v : Value), (Value.int .i64 l[i].kind :: .int .i64 l[i].pid :: termV k n s a2 ll.length)[j]? = some v → Am.cell h ad.block (ad.off + i * 6 + j) = some v := by
        intro j v hv
        have := e4 _ _ (each j v hv)
        rw [Nat.add_assoc]
        simp [Am.cell, e2, this]
      exact ⟨ad, k, n, s, a2, ll.length, e1, hget_lt e2, c 0 _ rfl, c 1 _ rfl, c 2 _ rfl, c 3 _ rfl, c 4 _ rfl, c 5 _ rfl, hm⟩

abbrev saidV (kind pid k n : Int) (s : ByteArray) (a : Option Addr) (m : Nat) : List Value := [.int .i64 kind, .int .i64 pid, .int .i64 k, .int .i64 n, .string s, .slice a m m]
theorem SsR.le {h : AH} {p : Nat → Prop} {f f' : Nat} (hf : f ≤ f') {l : List Sd} {a : Option Addr} (x : SsR h p f l a) : SsR h p f' l a := by
  obtain ⟨vs, h1, h2, h3, h4⟩ := x
  exact ⟨vs, h1, h2, h3, fun i y hy => by obtain ⟨cs, e, m⟩ := h4 i y hy; exact ⟨cs, e, m.le hf⟩⟩

end Go.Proofs.Ytolcnednfbbnnaa.Am


set_option linter.unusedSimpArgs false
set_option linter.unusedVariables false
namespace Go.Proofs.Ytolcnednfbbnnaa.Am
open Go Go.RowKit

end Go.Proofs.Ytolcnednfbbnnaa.Am


set_option linter.unusedSimpArgs false
set_option linter.unusedVariables false
namespace Go.Proofs.Ytolcnednfbbnnaa.Am
open Go Go.RowKit

def d0 : Sd := ⟨0, 0, .mk 0 0 ⟨#[]⟩ []⟩
end Go.Proofs.Ytolcnednfbbnnaa.Am

