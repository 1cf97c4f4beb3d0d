/- Code read out of bytes: both ways come to the same.
Conditions: none. -/
import Derived.Test.YtnmjhhipbfngkaaGc
set_option linter.unusedSimpArgs false
set_option linter.unusedVariables false
namespace Go.Proofs.Ytnmjhhipbfngkaa.Am
open Go Go.RowKit

def resI (zs : List Int) : List In × Bool := match gnL zs 0 4 0 0 with
  | some (n, e) => match pI zs n.toNat e [] with
    | some (_, out) => if pcB out ≠ [] ∧ pcB out = zs then (out, true) else ([], false)
    | none => ([], false)
  | none => ([], false)
def resS (zs : List Int) : List In × Bool := match gnL zs 0 4 0 0 with
  | some (n, e) => match pS zs (min n 201).toNat e [] with
    | some (a, out) => if a = (zs.length : Int) ∧ n = (out.length : Int) ∧ codeOk out = true then (out, true) else ([], false)
    | none => ([], false)
  | none => ([], false)
theorem res_join {zs : List Int} {l : List In} (ok : codeOk l = true) (e : codeB l = zs) : resI zs = (l, true) ∧ resS zs = (l, true) := by
  have hr := codeOk_rng ok
  obtain ⟨h200, h1, _⟩ := codeOk_spec ok
  have hin : inB (l.length : Int) (-1000000) 1000000 = true := by simp only [inB, Bool.and_eq_true, decide_eq_true_eq]; omega
  have hd : zs.drop 0 = encN (l.length : Int) ++ insBs l := by rw [List.drop_zero, ← e]; rfl
  have hg := gn_join (Nat.zero_le _) hd hin
  rw [Nat.zero_add, show ((0 : Nat) : Int) = 0 from rfl] at hg
  have hle : (encN (l.length : Int)).length ≤ zs.length := by rw [← e]; unfold codeB; rw [List.length_append]; omega
  have hd2 : zs.drop (encN (l.length : Int)).length = insBs l := by rw [← e]; unfold codeB; rw [List.drop_left]
  have hp : pcB l = zs := by unfold pcB; rw [if_pos ok, e]
  have hne : zs ≠ [] := by
    intro h
    rw [h, List.length_nil] at hle
    have := encN_pos (l.length : Int)
    omega
  constructor
  · unfold resI
    rw [hg]
    simp only
    rw [Int.toNat_natCast, pI_join hle hd2 hr (by simp; omega)]
    simp only [List.nil_append]
    rw [if_pos ⟨by rw [hp]; exact hne, hp⟩]
  · unfold resS
    rw [hg]
    simp only
    rw [show (min (l.length : Int) 201).toNat = l.length from by omega, pS_join hle hd2 hr]
    simp only [List.nil_append]
    rw [if_pos ⟨by trivial, by trivial, ok⟩]
theorem resI_true {zs : List Int} (h : (resI zs).2 = true) : codeOk (resI zs).1 = true ∧ codeB (resI zs).1 = zs := by
  have e : ∃ out, resI zs = (out, true) ∧ pcB out ≠ [] ∧ pcB out = zs := by
    unfold resI at h ⊢
    split at h
    · split at h
      · split at h
        · rename_i out _ c
          exact ⟨out, if_pos c, c.1, c.2⟩
        · cases h
      · cases h
    · cases h
  obtain ⟨out, e, h1, h2⟩ := e
  rw [e]
  unfold pcB at h1 h2
  split at h1
  · rename_i ok
    rw [if_pos ok] at h2
    exact ⟨ok, h2⟩
  · exact absurd rfl h1
theorem resS_true {zs : List Int} (hz : ∀ x ∈ zs, 0 ≤ x ∧ x ≤ 255) (h : (resS zs).2 = true) : codeOk (resS zs).1 = true ∧ codeB (resS zs).1 = zs := by
  unfold resS at h ⊢
  cases hg : gnL zs 0 4 0 0 with
  | none => rw [hg] at h; cases h
  | some p =>
    obtain ⟨n, e⟩ := p
    rw [hg] at h
    simp only at h ⊢
    have hg' : gnL zs ((0 : Nat) : Int) 4 0 0 = some (n, e) := hg
    obtain ⟨e', rfl, _, h2, h3⟩ := gn_split hz (Nat.zero_le _) hg'
    cases hp : pS zs (min n 201).toNat (e' : Int) [] with
    | none => rw [hp] at h; cases h
    | some q =>
      obtain ⟨a, out⟩ := q
      rw [hp] at h
      simp only at h ⊢
      split at h
      · rename_i c
        rw [if_pos c]
        obtain ⟨c1, c2, c3⟩ := c
        refine ⟨c3, ?_⟩
        obtain ⟨r, e2, q1, q2, q3, q4, q5⟩ := pS_split hz h2 hp
        simp only [List.nil_append] at q1
        subst q1
        rw [c1] at q3
        have : e2 = zs.length := by omega
        subst this
        rw [List.drop_length, List.append_nil] at q5
        rw [List.drop_zero] at h3
        show codeB out = zs
        unfold codeB
        rw [← c2, ← q5, ← h3]
      · cases h
theorem resI_false {zs : List Int} (h : (resI zs).2 = false) : resI zs = ([], false) := by
  unfold resI at h ⊢
  split
  · split
    · split
      · rename_i h1 _ _ _ h2 c
        rw [h1] at h
        simp only at h
        rw [h2] at h
        simp only at h
        rw [if_pos c] at h
        cases h
      · rfl
    · rfl
  · rfl
theorem resS_false {zs : List Int} (h : (resS zs).2 = false) : resS zs = ([], false) := by
  unfold resS at h ⊢
  split
  · split
    · split
      · rename_i h1 _ _ _ h2 c
        rw [h1] at h
        simp only at h
        rw [h2] at h
        simp only at h
        rw [if_pos c] at h
        cases h
      · rfl
    · rfl
  · rfl
theorem res_eq {zs : List Int} (hz : ∀ x ∈ zs, 0 ≤ x ∧ x ≤ 255) : resI zs = resS zs := by
  cases hI : (resI zs).2 with
  | true =>
    obtain ⟨h1, h2⟩ := resI_true hI
    obtain ⟨a, b⟩ := res_join h1 h2
    rw [b]
    exact a
  | false =>
    cases hS : (resS zs).2 with
    | true =>
      obtain ⟨h1, h2⟩ := resS_true hz hS
      obtain ⟨a, b⟩ := res_join h1 h2
      rw [a] at hI
      cases hI
    | false => rw [resI_false hI, resS_false hS]
theorem encs_bytes : ∀ (l : List Int), ∀ x ∈ encs l, 0 ≤ x ∧ x ≤ 255
  | [], x, hx => by cases hx
  | v :: r, x, hx => by
    rcases List.mem_append.1 hx with h | h
    · exact encN_bytes v x h
    · exact encs_bytes r x h
theorem insBs_bytes : ∀ (l : List In), ∀ x ∈ insBs l, 0 ≤ x ∧ x ≤ 255
  | [], x, hx => by cases hx
  | v :: r, x, hx => by
    rcases List.mem_append.1 hx with h | h
    · rcases List.mem_append.1 h with h | h
      · exact encs_bytes _ x h
      · simp only [sb, List.mem_map] at h
        obtain ⟨b, _, rfl⟩ := h
        have := b.toNat_lt
        omega
    · exact insBs_bytes r x h
theorem pcB_bytes {l : List In} : ∀ x ∈ pcB l, 0 ≤ x ∧ x ≤ 255 := by
  intro x hx
  unfold pcB at hx
  split at hx
  · rcases List.mem_append.1 hx with h | h
    · exact encN_bytes _ x h
    · exact insBs_bytes l x h
  · cases hx
theorem gn_le {zs : List Int} {a : Int} : ∀ {f k : Nat} {u n e : Int}, gnL zs a f k u = some (n, e) → n ≤ 1000000
  | 0, _, _, _, _, h => by cases h
  | f + 1, k, u, n, e, h => by
    rw [gnL] at h
    split at h
    · split at h
      · exact gn_le h
      · split at h
        · cases h
        · rename_i c
          simp only [Option.some.injEq, Prod.mk.injEq] at h
          rw [← h.1]
          rw [not_or] at c
          have := c.2
          simp only [inB, Bool.not_eq_false, Bool.and_eq_true, decide_eq_true_eq] at this
          exact this.2
    · cases h
end Go.Proofs.Ytnmjhhipbfngkaa.Am
