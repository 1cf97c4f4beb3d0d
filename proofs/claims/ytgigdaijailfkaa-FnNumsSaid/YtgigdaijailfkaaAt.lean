/- Atoms, and terms held against an atom.
Conditions: none. -/
import Derived.Test.YtgigdaijailfkaaTm3
set_option linter.unusedSimpArgs false
set_option linter.unusedVariables false
namespace Go.Proofs.Ytgigdaijailfkaa.Am
open Go Go.RowKit

theorem l9Atom_run {base : Nat} {h : AH} {w : ByteArray} (hb : base ≤ h.length) : ∃ h', run (Et base) 70 [.string w] h = some (.agg (termV 2 0 w none 0).toArray, h') ∧ KB NoB h h' := by
  obtain ⟨o1, k1, q1⟩ := box_own (base := base) (t := 48) (h := h) (cs := termV 0 0 ⟨#[]⟩ none 0) hb rfl
  generalize hh1 : h ++ [some (⟨termV 0 0 ⟨#[]⟩ none 0, 48⟩ : Blk)] = h1 at o1 k1 q1
  obtain ⟨h2, e2, o2, k2, l2⟩ := o1.wr0 (i := 0) (new := termV 2 0 w none 0) (by simp) (by simp)
  have hz : setAt (termV 0 0 ⟨#[]⟩ none 0) 0 (termV 2 0 w none 0) = termV 2 0 w none 0 := rfl
  rw [hz] at o2
  refine ⟨h2, r70 (lets fun h1' eh => ?_), KB.trans k1 k2 (fun _ _ h => h) (fun i hi h => by omega)⟩
  rw [hh1] at eh
  subst eh
  exact bs e2 (bI (o2.at0 (i := 0) rfl) (bI (o2.at0 (i := 1) rfl) (bT (o2.at0 (i := 2) rfl) (bS (o2.at0 (i := 3) rfl) rfl))))
theorem atom_run {base : Nat} {h : AH} {w : ByteArray} (hb : base ≤ h.length) : ∃ h', run (Et base) 97 [.string w] h = some (.agg (termV 2 0 w none 0).toArray, h') ∧ KB NoB h h' := by
  obtain ⟨o1, k1, q1⟩ := box_own (base := base) (t := 48) (h := h) (cs := termV 0 0 ⟨#[]⟩ none 0) hb rfl
  generalize hh1 : h ++ [some (⟨termV 0 0 ⟨#[]⟩ none 0, 48⟩ : Blk)] = h1 at o1 k1 q1
  obtain ⟨h2, e2, o2, k2, l2⟩ := o1.wr0 (i := 0) (new := termV 2 0 w none 0) (by simp) (by simp)
  have hz : setAt (termV 0 0 ⟨#[]⟩ none 0) 0 (termV 2 0 w none 0) = termV 2 0 w none 0 := rfl
  rw [hz] at o2
  refine ⟨h2, r97 (lets fun h1' eh => ?_), KB.trans k1 k2 (fun _ _ h => h) (fun i hi h => by omega)⟩
  rw [hh1] at eh
  subst eh
  exact bs e2 (bI (o2.at0 (i := 0) rfl) (bI (o2.at0 (i := 1) rfl) (bT (o2.at0 (i := 2) rfl) (bS (o2.at0 (i := 3) rfl) rfl))))

/-- Is it that atom? -/
def isA (k n : Int) (s : ByteArray) (m : Nat) (w : ByteArray) : Bool := !(k != 2) && !(n != 0) && (s.toList == w.toList) && !(((m : Nat) : Int) != ((0 : Nat) : Int))

theorem specSameAtom_run {base : Nat} {h : AH} {k n : Int} {s w : ByteArray} {a : Option Addr} {m : Nat} (hb : base ≤ h.length) :
    ∃ h', run (Et base) 72 [.agg (termV k n s a m).toArray, .agg (termV 2 0 w none 0).toArray] h = some (.bool (isA k n s m w), h') ∧ KB NoB h h' := by
  obtain ⟨o1, k1, q1⟩ := box_own (base := base) (t := 48) (h := h) (cs := termV k n s a m) hb rfl
  generalize hh1 : h ++ [some (⟨termV k n s a m, 48⟩ : Blk)] = h1 at o1 k1 q1
  obtain ⟨o2, k2, q2⟩ := box_own (base := base) (t := 48) (h := h1) (cs := termV 2 0 w none 0) (by omega) rfl
  generalize hh2 : h1 ++ [some (⟨termV 2 0 w none 0, 48⟩ : Blk)] = h2 at o2 k2 q2
  have o1' := o1.keepN k2
  refine ⟨h2, r72 (lets fun h1' eh => ?_), KB.trans k1 k2 (fun _ _ h => h) (fun _ _ h => h)⟩
  rw [hh1] at eh
  subst eh
  refine lets fun h2' eh => ?_
  rw [hh2] at eh
  subst eh
  refine bs (v := .inl ([some (.pointer (some ⟨h.length, 0, none⟩)), some (.pointer (some ⟨h1'.length, 0, none⟩)), some (.bool (!isA k n s m w))], h2')) ?_ ?_
  · refine bI (o1'.at0 (i := 0) rfl) (bI (o2.at0 (i := 0) rfl) ?_)
    by_cases c0 : (k != 2) = true
    · refine ifT c0 ?_
      simp [isA, c0]
    refine ifF c0 (bI (o1'.at0 (i := 1) rfl) (bI (o2.at0 (i := 1) rfl) ?_))
    by_cases c1 : (n != 0) = true
    · refine ifT c1 ?_
      simp [isA, c1]
    refine ifF c1 (bT (o1'.at0 (i := 2) rfl) (bT (o2.at0 (i := 2) rfl) ?_))
    by_cases c2 : (!(s.toList == w.toList)) = true
    · refine ifT c2 ?_
      have c2' : (s.toList == w.toList) = false := by simpa using c2
      simp [isA, c2']
    refine ifF c2 (bS (o1'.at0 (i := 3) rfl) (bS (o2.at0 (i := 3) rfl) ?_))
    have e0 : (k != 2) = false := by simpa using c0
    have e1 : (n != 0) = false := by simpa using c1
    have e2 : (s.toList == w.toList) = true := by simpa using c2
    simp [isA, e0, e1, e2]
  refine jn (bs (v := (⟨h.length, 0, none⟩ : Addr)) rfl (bs (v := (⟨h1'.length, 0, none⟩ : Addr)) rfl (bB rfl ?_)))
  by_cases hA : isA k n s m w = true
  · have hm : m = 0 := by simp [isA] at hA; omega
    rw [hA]
    refine ifF (by decide) (bs (v := (2, [], h2')) ?_ (ifF (by simp) (ifT rfl rfl)))
    rw [loopL_eq, B72_0_eq]
    have hc := o1'.at0 (i := 3) (v := .slice a m m) rfl
    refine bs (bS hc (ifF (by simp [hm]) rfl)) rfl
  · have : isA k n s m w = false := by simpa using hA
    rw [this]
    exact ifT (by decide) rfl

theorem implSameAtom_run {base : Nat} {h : AH} {k n : Int} {s w : ByteArray} {a : Option Addr} {m : Nat} (hb : base ≤ h.length) :
    ∃ h', run (Et base) 55 [.agg (termV k n s a m).toArray, .agg (termV 2 0 w none 0).toArray] h = some (.bool (isA k n s m w), h') ∧ KB NoB h h' := by
  obtain ⟨o1, k1, q1⟩ := box_own (base := base) (t := 48) (h := h) (cs := termV k n s a m) hb rfl
  generalize hh1 : h ++ [some (⟨termV k n s a m, 48⟩ : Blk)] = h1 at o1 k1 q1
  obtain ⟨o2, k2, q2⟩ := box_own (base := base) (t := 48) (h := h1) (cs := termV 2 0 w none 0) (by omega) rfl
  generalize hh2 : h1 ++ [some (⟨termV 2 0 w none 0, 48⟩ : Blk)] = h2 at o2 k2 q2
  have o1' := o1.keepN k2
  refine ⟨h2, r55 (lets fun h1' eh => ?_), KB.trans k1 k2 (fun _ _ h => h) (fun _ _ h => h)⟩
  rw [hh1] at eh
  subst eh
  refine lets fun h2' eh => ?_
  rw [hh2] at eh
  subst eh
  refine bs (v := .inl ([some (.pointer (some ⟨h.length, 0, none⟩)), some (.pointer (some ⟨h1'.length, 0, none⟩)), some (.bool (!isA k n s m w))], h2')) ?_ ?_
  · refine bI (o1'.at0 (i := 0) rfl) (bI (o2.at0 (i := 0) rfl) ?_)
    by_cases c0 : (k != 2) = true
    · refine ifT c0 ?_
      simp [isA, c0]
    refine ifF c0 (bI (o1'.at0 (i := 1) rfl) (bI (o2.at0 (i := 1) rfl) ?_))
    by_cases c1 : (n != 0) = true
    · refine ifT c1 ?_
      simp [isA, c1]
    refine ifF c1 (bT (o1'.at0 (i := 2) rfl) (bT (o2.at0 (i := 2) rfl) ?_))
    by_cases c2 : (!(s.toList == w.toList)) = true
    · refine ifT c2 ?_
      have c2' : (s.toList == w.toList) = false := by simpa using c2
      simp [isA, c2']
    refine ifF c2 (bS (o1'.at0 (i := 3) rfl) (bS (o2.at0 (i := 3) rfl) ?_))
    have e0 : (k != 2) = false := by simpa using c0
    have e1 : (n != 0) = false := by simpa using c1
    have e2 : (s.toList == w.toList) = true := by simpa using c2
    simp [isA, e0, e1, e2]
  refine jn (bs (v := (⟨h.length, 0, none⟩ : Addr)) rfl (bs (v := (⟨h1'.length, 0, none⟩ : Addr)) rfl (bB rfl ?_)))
  by_cases hA : isA k n s m w = true
  · have hm : m = 0 := by simp [isA] at hA; omega
    rw [hA]
    have hc := o1'.at0 (i := 3) (v := .slice a m m) rfl
    refine ifF (by decide) (bS hc (bs (v := (2, [], h2')) ?_ (ifF (by simp) (ifT rfl rfl))))
    rw [loopL_eq, B55_0_eq]
    exact bs (ifF (by simp [hm]) rfl) rfl
  · have : isA k n s m w = false := by simpa using hA
    rw [this]
    exact ifT (by decide) rfl
end Go.Proofs.Ytgigdaijailfkaa.Am
