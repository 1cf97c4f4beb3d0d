/-
  NARROWER THAN 'FOR EVERY INPUT', by the rows' own cells (each row's printed sentence says how): FnExactPlainNew: loops · FnExactStepActor: loops · FnExactPlainTell: loops.
  DERIVED. THE GIVEN ROWS OF THIS SEAT. 4 by the template 'for every input the law returns true; each argument reads behind the call as it read before'; 0 by the template 'total and deterministic' (their statements: YtolcnednfbbnnaaTotals.lean).
  GIVEN WITH THE SEED: the statements are not yours to turn. If you find one false, say at which input.
  Laid BY PROGRAM, IN A SANDBOX (cutbox-rows.mjs): the forced cells as the released guide's own fill.sh prints them over the translation 5782699f9589939f… (all of the seat's roots in one cut). By AI agents, Wed Nov 11 2026. No macro, syntax, notation, axiom, sorry.
-/
import Derived.Test.YtolcnednfbbnnaaChecked
import GoSem.Claim
import GoSem.ClaimJoined
import GoSem.ClaimMapViews
import Derived.JoinedTies
import Derived.KernelRfl
namespace Go.Proofs.Ytolcnednfbbnnaa
/- THE CELL 'sum', in the pinned program and in every row, IS THE sha256 OF THE DUMP (.gsa) THAT YtolcnednfbbnnaaProg.lean LOADS. Nothing in Lean hashes anything: it is a label: what it is worth is what the hold of that sum in a sandbox is worth. -/
noncomputable def Try.pinned : Pinned := { name := "ytolcnednfbbnnaa", sum := "5782699f9589939f0f655eceb9b8985cb60d428ce65b9939d9787c25f383fb93", checked := Try.checked }
namespace Rows
def none {H : Type} : Left H := { results := [], args := [] }

/-- 'laws.FnExactPlainNew': WHATEVER THE INPUT: true; the input reads as it did. -/
def fnExactPlainNewSpec : ChangeSpec := { name := "fnExactPlainNew", fn := fun _ => fun
  | [d1, d2] => { results := [.lit (.bool true)], args := [d1, d2] }
  | _ => none }
def fnExactPlainNewRow : OpenClaim := { program := "ytolcnednfbbnnaa", sum := "5782699f9589939f0f655eceb9b8985cb60d428ce65b9939d9787c25f383fb93", func := "loop.example/g00248/laws.FnExactPlainNew", spec := "fnExactPlainNew", inPlace := ["internal/bytealg.IndexByteString"], unfollowed := true, recurses := true, loops := true, apart := false }
def FnExactPlainNewSaid : Prop := fnExactPlainNewRow.holds Try.pinned (OpenSpec.ofChange fnExactPlainNewSpec)

/-- ITS FALSE NEIGHBOUR: 'it returns false'. Refute it at one input. -/
def fnExactPlainNewWrong : ChangeSpec := { name := "fnExactPlainNew", fn := fun _ => fun
  | [d1, d2] => { results := [.lit (.bool false)], args := [d1, d2] }
  | _ => none }
def FnExactPlainNewWrongFalsely : Prop := fnExactPlainNewRow.holds Try.pinned (OpenSpec.ofChange fnExactPlainNewWrong)

/-- 'laws.FnExactStepActor': WHATEVER THE INPUT: true; the input reads as it did. -/
def fnExactStepActorSpec : ChangeSpec := { name := "fnExactStepActor", fn := fun _ => fun
  | [d1, d2, d3] => { results := [.lit (.bool true)], args := [d1, d2, d3] }
  | _ => none }
def fnExactStepActorRow : OpenClaim := { program := "ytolcnednfbbnnaa", sum := "5782699f9589939f0f655eceb9b8985cb60d428ce65b9939d9787c25f383fb93", func := "loop.example/g00248/laws.FnExactStepActor", spec := "fnExactStepActor", inPlace := ["internal/bytealg.IndexByteString"], unfollowed := true, recurses := true, loops := true, apart := false }
def FnExactStepActorSaid : Prop := fnExactStepActorRow.holds Try.pinned (OpenSpec.ofChange fnExactStepActorSpec)

/-- ITS FALSE NEIGHBOUR: 'it returns false'. Refute it at one input. -/
def fnExactStepActorWrong : ChangeSpec := { name := "fnExactStepActor", fn := fun _ => fun
  | [d1, d2, d3] => { results := [.lit (.bool false)], args := [d1, d2, d3] }
  | _ => none }
def FnExactStepActorWrongFalsely : Prop := fnExactStepActorRow.holds Try.pinned (OpenSpec.ofChange fnExactStepActorWrong)

/-- 'laws.FnPlains': WHATEVER THE INPUT: true; the input reads as it did. -/
def fnPlainsSpec : ChangeSpec := { name := "fnPlains", fn := fun _ => fun
  | [d] => { results := [.lit (.bool true)], args := [d] }
  | _ => none }
def fnPlainsRow : OpenClaim := { program := "ytolcnednfbbnnaa", sum := "5782699f9589939f0f655eceb9b8985cb60d428ce65b9939d9787c25f383fb93", func := "loop.example/g00248/laws.FnPlains", spec := "fnPlains", inPlace := ["internal/bytealg.IndexByteString"], unfollowed := true, recurses := true, apart := false }
def FnPlainsSaid : Prop := fnPlainsRow.holds Try.pinned (OpenSpec.ofChange fnPlainsSpec)

/-- ITS FALSE NEIGHBOUR: 'it returns false'. Refute it at one input. -/
def fnPlainsWrong : ChangeSpec := { name := "fnPlains", fn := fun _ => fun
  | [d] => { results := [.lit (.bool false)], args := [d] }
  | _ => none }
def FnPlainsWrongFalsely : Prop := fnPlainsRow.holds Try.pinned (OpenSpec.ofChange fnPlainsWrong)

/-- 'laws.FnExactPlainTell': WHATEVER THE INPUT: true; the input reads as it did. -/
def fnExactPlainTellSpec : ChangeSpec := { name := "fnExactPlainTell", fn := fun _ => fun
  | [d1, d2, d3] => { results := [.lit (.bool true)], args := [d1, d2, d3] }
  | _ => none }
def fnExactPlainTellRow : OpenClaim := { program := "ytolcnednfbbnnaa", sum := "5782699f9589939f0f655eceb9b8985cb60d428ce65b9939d9787c25f383fb93", func := "loop.example/g00248/laws.FnExactPlainTell", spec := "fnExactPlainTell", inPlace := ["internal/bytealg.IndexByteString"], unfollowed := true, recurses := true, loops := true, apart := false }
def FnExactPlainTellSaid : Prop := fnExactPlainTellRow.holds Try.pinned (OpenSpec.ofChange fnExactPlainTellSpec)

/-- ITS FALSE NEIGHBOUR: 'it returns false'. Refute it at one input. -/
def fnExactPlainTellWrong : ChangeSpec := { name := "fnExactPlainTell", fn := fun _ => fun
  | [d1, d2, d3] => { results := [.lit (.bool false)], args := [d1, d2, d3] }
  | _ => none }
def FnExactPlainTellWrongFalsely : Prop := fnExactPlainTellRow.holds Try.pinned (OpenSpec.ofChange fnExactPlainTellWrong)

/- THE SECOND FORM. 'bulk': how many values and letters a reading holds, each counted each time it is reached (what is shared counts as often as it is met; a slice's spare places count too). A statement '..UptoSaid' is the law's where the arguments, and the package variables that the reading takes, are together of bulk at most 1048576: NARROWER than '..Said'. Prove '..Said' where nothing that the law and all that it calls make is longer than what came in: it says more and counts as full. Else prove '..UptoSaid'. A law counts once. -/
mutual
def uptoBulk {H : Type} : DataW H → Nat
  | .lit (.string bytes) => bytes.length + 1
  | .lit _ => 1
  | .nil => 1
  | .ptr d => uptoBulk d + 1
  | .slice elems spare => uptoBulkAll elems + uptoBulkAll spare + 1
  | .agg parts => uptoBulkAll parts + 1
  | .iface _ d => uptoBulk d + 1
  | .map entries => uptoBulkEntries entries + 1
  | .held _ => 1
def uptoBulkAll {H : Type} : List (DataW H) → Nat
  | [] => 0
  | d :: r => uptoBulk d + uptoBulkAll r
def uptoBulkEntries {H : Type} : List (Lit × DataW H) → Nat
  | [] => 0
  | x :: r => uptoBulkEntry x + uptoBulkEntries r
def uptoBulkEntry {H : Type} : Lit × DataW H → Nat
  | (.string bytes, d) => bytes.length + uptoBulk d + 1
  | (_, d) => uptoBulk d + 1
 end
def uptoSmall : (H : Type) → List (DataW H) → Bool := fun _ ds => decide (uptoBulkAll ds ≤ 1048576)
def OpenSpec.upto (s : _root_.Go.ChangeSpec) : _root_.Go.OpenSpec := { _root_.Go.OpenSpec.ofChange s with cond := some uptoSmall }

/-- 'laws.FnExactPlainNew', WHERE WHAT IT READS IS OF BULK AT MOST 1048576: true; the input reads as it did. -/
def fnExactPlainNewUptoRow : OpenClaim := { program := "ytolcnednfbbnnaa", sum := "5782699f9589939f0f655eceb9b8985cb60d428ce65b9939d9787c25f383fb93", func := "loop.example/g00248/laws.FnExactPlainNew", spec := "fnExactPlainNew", inPlace := ["internal/bytealg.IndexByteString"], unfollowed := true, recurses := true, loops := true, apart := false, narrowed := true }
def FnExactPlainNewUptoSaid : Prop := fnExactPlainNewUptoRow.holds Try.pinned (OpenSpec.upto fnExactPlainNewSpec)

/-- 'laws.FnExactStepActor', WHERE WHAT IT READS IS OF BULK AT MOST 1048576: true; the input reads as it did. -/
def fnExactStepActorUptoRow : OpenClaim := { program := "ytolcnednfbbnnaa", sum := "5782699f9589939f0f655eceb9b8985cb60d428ce65b9939d9787c25f383fb93", func := "loop.example/g00248/laws.FnExactStepActor", spec := "fnExactStepActor", inPlace := ["internal/bytealg.IndexByteString"], unfollowed := true, recurses := true, loops := true, apart := false, narrowed := true }
def FnExactStepActorUptoSaid : Prop := fnExactStepActorUptoRow.holds Try.pinned (OpenSpec.upto fnExactStepActorSpec)

/-- 'laws.FnPlains', WHERE WHAT IT READS IS OF BULK AT MOST 1048576: true; the input reads as it did. -/
def fnPlainsUptoRow : OpenClaim := { program := "ytolcnednfbbnnaa", sum := "5782699f9589939f0f655eceb9b8985cb60d428ce65b9939d9787c25f383fb93", func := "loop.example/g00248/laws.FnPlains", spec := "fnPlains", inPlace := ["internal/bytealg.IndexByteString"], unfollowed := true, recurses := true, apart := false, narrowed := true }
def FnPlainsUptoSaid : Prop := fnPlainsUptoRow.holds Try.pinned (OpenSpec.upto fnPlainsSpec)

/-- 'laws.FnExactPlainTell', WHERE WHAT IT READS IS OF BULK AT MOST 1048576: true; the input reads as it did. -/
def fnExactPlainTellUptoRow : OpenClaim := { program := "ytolcnednfbbnnaa", sum := "5782699f9589939f0f655eceb9b8985cb60d428ce65b9939d9787c25f383fb93", func := "loop.example/g00248/laws.FnExactPlainTell", spec := "fnExactPlainTell", inPlace := ["internal/bytealg.IndexByteString"], unfollowed := true, recurses := true, loops := true, apart := false, narrowed := true }
def FnExactPlainTellUptoSaid : Prop := fnExactPlainTellUptoRow.holds Try.pinned (OpenSpec.upto fnExactPlainTellSpec)

end Rows
end Go.Proofs.Ytolcnednfbbnnaa
