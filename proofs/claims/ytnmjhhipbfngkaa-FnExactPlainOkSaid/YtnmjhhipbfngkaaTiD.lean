/- Rows of timers that own what lies below them: copies, marks.
Conditions: none. -/
import Derived.Test.YtnmjhhipbfngkaaCp2
import Derived.Test.YtnmjhhipbfngkaaMk
import Derived.Test.YtnmjhhipbfngkaaOk3
set_option linter.unusedSimpArgs false
set_option linter.unusedVariables false
namespace Go.Proofs.Ytnmjhhipbfngkaa.Am
open Go Go.RowKit

def SdD (f : Nat) (S : Fp) (h : AH) (x : Sd) (cs : List Value) : Prop := ∃ k n s a m, cs = saidV x.kind x.pid k n s a m ∧ TmD f S h x.t (termV k n s a m)
theorem SdD.kp (f : Nat) : Kp (SdD f) := fun S U h h' x cs k hs y => by
  obtain ⟨k1, n, s, a, m, e, r⟩ := y
  exact ⟨k1, n, s, a, m, e, TmD.kp f _ _ _ _ _ _ k hs r⟩
theorem SdD.mo (f : Nat) : Mo (SdD f) := fun S S' h x cs hs y => by
  obtain ⟨k1, n, s, a, m, e, r⟩ := y
  exact ⟨k1, n, s, a, m, e, TmD.mo f _ _ _ _ _ hs r⟩
theorem RowD.ssR {f : Nat} {S : Fp} {h : AH} {l : List Sd} {a : Option Addr} (x : RowD 6 (SdD f) S h l a) : SsR h S f l a := by
  obtain ⟨vs, T, x1, x2, x3, x4, C, c1, c2, c3⟩ := x
  refine ⟨vs, x1, x3.imp id fun g b hb => (g b hb).1, x2, fun i t hi => ?_⟩
  obtain ⟨k, n, s, a, m, e, r⟩ := c3 i t hi
  exact ⟨_, e, (TmD.tmR _ _ _ _ _ r).mono (fun b hb => x4 b (c1 i b hb)) _ _ _⟩

/-- Timers that hold the marks from k on, up to k'. -/
inductive IsMT : List Sd → Int → Int → Prop
  | nil (k : Int) : IsMT [] k k
  | cons {k k1 k2 : Int} {l : List Tm} {r : List Sd} : IsM l (k + 5) k1 → IsMT r k1 k2 → IsMT (⟨k, k + 1, .mk (k + 2) (k + 3) (mt (k + 4)) l⟩ :: r) k k2
theorem IsMT.le {l : List Sd} {k k' : Int} (x : IsMT l k k') : k ≤ k' := by
  induction x with
  | nil => exact Int.le_refl _
  | cons m _ ih2 => have := m.le; omega
/-- How many marks timers take. -/
def mcT (f : Nat) (l : List Sd) : Int := ((5 * l.length + 3 * sumL (fun x => tcnt f x.t) l : Nat) : Int)

end Go.Proofs.Ytnmjhhipbfngkaa.Am
