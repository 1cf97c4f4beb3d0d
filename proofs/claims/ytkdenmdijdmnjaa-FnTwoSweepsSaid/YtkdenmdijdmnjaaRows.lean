/-
  NARROWER THAN 'FOR EVERY INPUT', by the rows' own cells (each row's printed sentence says how): FnExactPlainTell: loops.
  DERIVED. THE GIVEN ROWS OF THIS SEAT. 8 by the template 'for every input the law returns true; each argument reads behind the call as it read before'; 0 by the template 'total and deterministic' (their statements: YtkdenmdijdmnjaaTotals.lean).
  GIVEN WITH THE SEED: the statements are not yours to turn. If you find one false, say at which input.
  Laid BY PROGRAM, IN A SANDBOX (cutbox-rows.mjs): the forced cells as the released guide's own fill.sh prints them over the translation 7b26a7e805b081e5… (all of the seat's roots in one cut). By AI agents, Wed Nov 11 2026. No macro, syntax, notation, axiom, sorry.
-/
import Derived.Test.YtkdenmdijdmnjaaChecked
import GoSem.Claim
import GoSem.ClaimJoined
import GoSem.ClaimMapViews
import Derived.JoinedTies
import Derived.KernelRfl
namespace Go.Proofs.Ytkdenmdijdmnjaa
/- THE CELL 'sum', in the pinned program and in every row, IS THE sha256 OF THE DUMP (.gsa) THAT YtkdenmdijdmnjaaProg.lean LOADS. Nothing in Lean hashes anything: it is a label: what it is worth is what the hold of that sum in a sandbox is worth. -/
noncomputable def Try.pinned : Pinned := { name := "ytkdenmdijdmnjaa", sum := "7b26a7e805b081e5e5996371451f508fbfb94c074b0338b4a6728874feeac2b2", checked := Try.checked }
namespace Rows
def none {H : Type} : Left H := { results := [], args := [] }

/-- 'laws.FnExactPlainTell': WHATEVER THE INPUT: true; the input reads as it did. -/
def fnExactPlainTellSpec : ChangeSpec := { name := "fnExactPlainTell", fn := fun _ => fun
  | [d1, d2, d3] => { results := [.lit (.bool true)], args := [d1, d2, d3] }
  | _ => none }
def fnExactPlainTellRow : OpenClaim := { program := "ytkdenmdijdmnjaa", sum := "7b26a7e805b081e5e5996371451f508fbfb94c074b0338b4a6728874feeac2b2", func := "loop.example/g00248/laws.FnExactPlainTell", spec := "fnExactPlainTell", inPlace := ["internal/bytealg.IndexByteString"], unfollowed := true, recurses := true, loops := true, apart := false }
def FnExactPlainTellSaid : Prop := fnExactPlainTellRow.holds Try.pinned (OpenSpec.ofChange fnExactPlainTellSpec)

/-- ITS FALSE NEIGHBOUR: 'it returns false'. Refute it at one input. -/
def fnExactPlainTellWrong : ChangeSpec := { name := "fnExactPlainTell", fn := fun _ => fun
  | [d1, d2, d3] => { results := [.lit (.bool false)], args := [d1, d2, d3] }
  | _ => none }
def FnExactPlainTellWrongFalsely : Prop := fnExactPlainTellRow.holds Try.pinned (OpenSpec.ofChange fnExactPlainTellWrong)

/-- 'laws.FnPlains': WHATEVER THE INPUT: true; the input reads as it did. -/
def fnPlainsSpec : ChangeSpec := { name := "fnPlains", fn := fun _ => fun
  | [d] => { results := [.lit (.bool true)], args := [d] }
  | _ => none }
def fnPlainsRow : OpenClaim := { program := "ytkdenmdijdmnjaa", sum := "7b26a7e805b081e5e5996371451f508fbfb94c074b0338b4a6728874feeac2b2", func := "loop.example/g00248/laws.FnPlains", spec := "fnPlains", inPlace := ["internal/bytealg.IndexByteString"], unfollowed := true, recurses := true, apart := false }
def FnPlainsSaid : Prop := fnPlainsRow.holds Try.pinned (OpenSpec.ofChange fnPlainsSpec)

/-- ITS FALSE NEIGHBOUR: 'it returns false'. Refute it at one input. -/
def fnPlainsWrong : ChangeSpec := { name := "fnPlains", fn := fun _ => fun
  | [d] => { results := [.lit (.bool false)], args := [d] }
  | _ => none }
def FnPlainsWrongFalsely : Prop := fnPlainsRow.holds Try.pinned (OpenSpec.ofChange fnPlainsWrong)

/-- 'laws.FnExactLiveOf': WHATEVER THE INPUT: true; the input reads as it did. -/
def fnExactLiveOfSpec : ChangeSpec := { name := "fnExactLiveOf", fn := fun _ => fun
  | [d1, d2, d3] => { results := [.lit (.bool true)], args := [d1, d2, d3] }
  | _ => none }
def fnExactLiveOfRow : OpenClaim := { program := "ytkdenmdijdmnjaa", sum := "7b26a7e805b081e5e5996371451f508fbfb94c074b0338b4a6728874feeac2b2", func := "loop.example/g00248/laws.FnExactLiveOf", spec := "fnExactLiveOf", unfollowed := true, recurses := true, apart := false }
def FnExactLiveOfSaid : Prop := fnExactLiveOfRow.holds Try.pinned (OpenSpec.ofChange fnExactLiveOfSpec)

/-- ITS FALSE NEIGHBOUR: 'it returns false'. Refute it at one input. -/
def fnExactLiveOfWrong : ChangeSpec := { name := "fnExactLiveOf", fn := fun _ => fun
  | [d1, d2, d3] => { results := [.lit (.bool false)], args := [d1, d2, d3] }
  | _ => none }
def FnExactLiveOfWrongFalsely : Prop := fnExactLiveOfRow.holds Try.pinned (OpenSpec.ofChange fnExactLiveOfWrong)

/-- 'laws.FnExactMajor': WHATEVER THE INPUT: true; the input reads as it did. -/
def fnExactMajorSpec : ChangeSpec := { name := "fnExactMajor", fn := fun _ => fun
  | [d1, d2, d3] => { results := [.lit (.bool true)], args := [d1, d2, d3] }
  | _ => none }
def fnExactMajorRow : OpenClaim := { program := "ytkdenmdijdmnjaa", sum := "7b26a7e805b081e5e5996371451f508fbfb94c074b0338b4a6728874feeac2b2", func := "loop.example/g00248/laws.FnExactMajor", spec := "fnExactMajor", unfollowed := true, recurses := true, apart := false }
def FnExactMajorSaid : Prop := fnExactMajorRow.holds Try.pinned (OpenSpec.ofChange fnExactMajorSpec)

/-- ITS FALSE NEIGHBOUR: 'it returns false'. Refute it at one input. -/
def fnExactMajorWrong : ChangeSpec := { name := "fnExactMajor", fn := fun _ => fun
  | [d1, d2, d3] => { results := [.lit (.bool false)], args := [d1, d2, d3] }
  | _ => none }
def FnExactMajorWrongFalsely : Prop := fnExactMajorRow.holds Try.pinned (OpenSpec.ofChange fnExactMajorWrong)

/-- 'laws.FnExactMinor': WHATEVER THE INPUT: true; the input reads as it did. -/
def fnExactMinorSpec : ChangeSpec := { name := "fnExactMinor", fn := fun _ => fun
  | [d1, d2, d3] => { results := [.lit (.bool true)], args := [d1, d2, d3] }
  | _ => none }
def fnExactMinorRow : OpenClaim := { program := "ytkdenmdijdmnjaa", sum := "7b26a7e805b081e5e5996371451f508fbfb94c074b0338b4a6728874feeac2b2", func := "loop.example/g00248/laws.FnExactMinor", spec := "fnExactMinor", unfollowed := true, recurses := true, apart := false }
def FnExactMinorSaid : Prop := fnExactMinorRow.holds Try.pinned (OpenSpec.ofChange fnExactMinorSpec)

/-- ITS FALSE NEIGHBOUR: 'it returns false'. Refute it at one input. -/
def fnExactMinorWrong : ChangeSpec := { name := "fnExactMinor", fn := fun _ => fun
  | [d1, d2, d3] => { results := [.lit (.bool false)], args := [d1, d2, d3] }
  | _ => none }
def FnExactMinorWrongFalsely : Prop := fnExactMinorRow.holds Try.pinned (OpenSpec.ofChange fnExactMinorWrong)

/-- 'laws.FnExactTidy': WHATEVER THE INPUT: true; the input reads as it did. -/
def fnExactTidySpec : ChangeSpec := { name := "fnExactTidy", fn := fun _ => fun
  | [d1, d2, d3, d4, d5] => { results := [.lit (.bool true)], args := [d1, d2, d3, d4, d5] }
  | _ => none }
def fnExactTidyRow : OpenClaim := { program := "ytkdenmdijdmnjaa", sum := "7b26a7e805b081e5e5996371451f508fbfb94c074b0338b4a6728874feeac2b2", func := "loop.example/g00248/laws.FnExactTidy", spec := "fnExactTidy", unfollowed := true, recurses := true, apart := false }
def FnExactTidySaid : Prop := fnExactTidyRow.holds Try.pinned (OpenSpec.ofChange fnExactTidySpec)

/-- ITS FALSE NEIGHBOUR: 'it returns false'. Refute it at one input. -/
def fnExactTidyWrong : ChangeSpec := { name := "fnExactTidy", fn := fun _ => fun
  | [d1, d2, d3, d4, d5] => { results := [.lit (.bool false)], args := [d1, d2, d3, d4, d5] }
  | _ => none }
def FnExactTidyWrongFalsely : Prop := fnExactTidyRow.holds Try.pinned (OpenSpec.ofChange fnExactTidyWrong)

/-- 'laws.FnLive': WHATEVER THE INPUT: true; the input reads as it did. -/
def fnLiveSpec : ChangeSpec := { name := "fnLive", fn := fun _ => fun
  | [d] => { results := [.lit (.bool true)], args := [d] }
  | _ => none }
def fnLiveRow : OpenClaim := { program := "ytkdenmdijdmnjaa", sum := "7b26a7e805b081e5e5996371451f508fbfb94c074b0338b4a6728874feeac2b2", func := "loop.example/g00248/laws.FnLive", spec := "fnLive", unfollowed := true, recurses := true, apart := false }
def FnLiveSaid : Prop := fnLiveRow.holds Try.pinned (OpenSpec.ofChange fnLiveSpec)

/-- ITS FALSE NEIGHBOUR: 'it returns false'. Refute it at one input. -/
def fnLiveWrong : ChangeSpec := { name := "fnLive", fn := fun _ => fun
  | [d] => { results := [.lit (.bool false)], args := [d] }
  | _ => none }
def FnLiveWrongFalsely : Prop := fnLiveRow.holds Try.pinned (OpenSpec.ofChange fnLiveWrong)

/-- 'laws.FnTwoSweeps': WHATEVER THE INPUT: true; the input reads as it did. -/
def fnTwoSweepsSpec : ChangeSpec := { name := "fnTwoSweeps", fn := fun _ => fun
  | [d] => { results := [.lit (.bool true)], args := [d] }
  | _ => none }
def fnTwoSweepsRow : OpenClaim := { program := "ytkdenmdijdmnjaa", sum := "7b26a7e805b081e5e5996371451f508fbfb94c074b0338b4a6728874feeac2b2", func := "loop.example/g00248/laws.FnTwoSweeps", spec := "fnTwoSweeps", unfollowed := true, recurses := true, apart := false }
def FnTwoSweepsSaid : Prop := fnTwoSweepsRow.holds Try.pinned (OpenSpec.ofChange fnTwoSweepsSpec)

/-- ITS FALSE NEIGHBOUR: 'it returns false'. Refute it at one input. -/
def fnTwoSweepsWrong : ChangeSpec := { name := "fnTwoSweeps", fn := fun _ => fun
  | [d] => { results := [.lit (.bool false)], args := [d] }
  | _ => none }
def FnTwoSweepsWrongFalsely : Prop := fnTwoSweepsRow.holds Try.pinned (OpenSpec.ofChange fnTwoSweepsWrong)

/- THE SECOND FORM. 'bulk': how many values and letters a reading holds, each counted each time it is reached (what is shared counts as often as it is met; a slice's spare places count too). A statement '..UptoSaid' is the law's where the arguments, and the package variables that the reading takes, are together of bulk at most 1048576: NARROWER than '..Said'. Prove '..Said' where nothing that the law and all that it calls make is longer than what came in: it says more and counts as full. Else prove '..UptoSaid'. A law counts once. -/
mutual
def uptoBulk {H : Type} : DataW H → Nat
  | .lit (.string bytes) => bytes.length + 1
  | .lit _ => 1
  | .nil => 1
  | .ptr d => uptoBulk d + 1
  | .slice elems spare => uptoBulkAll elems + uptoBulkAll spare + 1
  | .agg parts => uptoBulkAll parts + 1
  | .iface _ d => uptoBulk d + 1
  | .map entries => uptoBulkEntries entries + 1
  | .held _ => 1
def uptoBulkAll {H : Type} : List (DataW H) → Nat
  | [] => 0
  | d :: r => uptoBulk d + uptoBulkAll r
def uptoBulkEntries {H : Type} : List (Lit × DataW H) → Nat
  | [] => 0
  | x :: r => uptoBulkEntry x + uptoBulkEntries r
def uptoBulkEntry {H : Type} : Lit × DataW H → Nat
  | (.string bytes, d) => bytes.length + uptoBulk d + 1
  | (_, d) => uptoBulk d + 1
 end
def uptoSmall : (H : Type) → List (DataW H) → Bool := fun _ ds => decide (uptoBulkAll ds ≤ 1048576)
def OpenSpec.upto (s : _root_.Go.ChangeSpec) : _root_.Go.OpenSpec := { _root_.Go.OpenSpec.ofChange s with cond := some uptoSmall }

/-- 'laws.FnExactPlainTell', WHERE WHAT IT READS IS OF BULK AT MOST 1048576: true; the input reads as it did. -/
def fnExactPlainTellUptoRow : OpenClaim := { program := "ytkdenmdijdmnjaa", sum := "7b26a7e805b081e5e5996371451f508fbfb94c074b0338b4a6728874feeac2b2", func := "loop.example/g00248/laws.FnExactPlainTell", spec := "fnExactPlainTell", inPlace := ["internal/bytealg.IndexByteString"], unfollowed := true, recurses := true, loops := true, apart := false, narrowed := true }
def FnExactPlainTellUptoSaid : Prop := fnExactPlainTellUptoRow.holds Try.pinned (OpenSpec.upto fnExactPlainTellSpec)

/-- 'laws.FnPlains', WHERE WHAT IT READS IS OF BULK AT MOST 1048576: true; the input reads as it did. -/
def fnPlainsUptoRow : OpenClaim := { program := "ytkdenmdijdmnjaa", sum := "7b26a7e805b081e5e5996371451f508fbfb94c074b0338b4a6728874feeac2b2", func := "loop.example/g00248/laws.FnPlains", spec := "fnPlains", inPlace := ["internal/bytealg.IndexByteString"], unfollowed := true, recurses := true, apart := false, narrowed := true }
def FnPlainsUptoSaid : Prop := fnPlainsUptoRow.holds Try.pinned (OpenSpec.upto fnPlainsSpec)

/-- 'laws.FnExactLiveOf', WHERE WHAT IT READS IS OF BULK AT MOST 1048576: true; the input reads as it did. -/
def fnExactLiveOfUptoRow : OpenClaim := { program := "ytkdenmdijdmnjaa", sum := "7b26a7e805b081e5e5996371451f508fbfb94c074b0338b4a6728874feeac2b2", func := "loop.example/g00248/laws.FnExactLiveOf", spec := "fnExactLiveOf", unfollowed := true, recurses := true, apart := false, narrowed := true }
def FnExactLiveOfUptoSaid : Prop := fnExactLiveOfUptoRow.holds Try.pinned (OpenSpec.upto fnExactLiveOfSpec)

/-- 'laws.FnExactMajor', WHERE WHAT IT READS IS OF BULK AT MOST 1048576: true; the input reads as it did. -/
def fnExactMajorUptoRow : OpenClaim := { program := "ytkdenmdijdmnjaa", sum := "7b26a7e805b081e5e5996371451f508fbfb94c074b0338b4a6728874feeac2b2", func := "loop.example/g00248/laws.FnExactMajor", spec := "fnExactMajor", unfollowed := true, recurses := true, apart := false, narrowed := true }
def FnExactMajorUptoSaid : Prop := fnExactMajorUptoRow.holds Try.pinned (OpenSpec.upto fnExactMajorSpec)

/-- 'laws.FnExactMinor', WHERE WHAT IT READS IS OF BULK AT MOST 1048576: true; the input reads as it did. -/
def fnExactMinorUptoRow : OpenClaim := { program := "ytkdenmdijdmnjaa", sum := "7b26a7e805b081e5e5996371451f508fbfb94c074b0338b4a6728874feeac2b2", func := "loop.example/g00248/laws.FnExactMinor", spec := "fnExactMinor", unfollowed := true, recurses := true, apart := false, narrowed := true }
def FnExactMinorUptoSaid : Prop := fnExactMinorUptoRow.holds Try.pinned (OpenSpec.upto fnExactMinorSpec)

/-- 'laws.FnExactTidy', WHERE WHAT IT READS IS OF BULK AT MOST 1048576: true; the input reads as it did. -/
def fnExactTidyUptoRow : OpenClaim := { program := "ytkdenmdijdmnjaa", sum := "7b26a7e805b081e5e5996371451f508fbfb94c074b0338b4a6728874feeac2b2", func := "loop.example/g00248/laws.FnExactTidy", spec := "fnExactTidy", unfollowed := true, recurses := true, apart := false, narrowed := true }
def FnExactTidyUptoSaid : Prop := fnExactTidyUptoRow.holds Try.pinned (OpenSpec.upto fnExactTidySpec)

/-- 'laws.FnLive', WHERE WHAT IT READS IS OF BULK AT MOST 1048576: true; the input reads as it did. -/
def fnLiveUptoRow : OpenClaim := { program := "ytkdenmdijdmnjaa", sum := "7b26a7e805b081e5e5996371451f508fbfb94c074b0338b4a6728874feeac2b2", func := "loop.example/g00248/laws.FnLive", spec := "fnLive", unfollowed := true, recurses := true, apart := false, narrowed := true }
def FnLiveUptoSaid : Prop := fnLiveUptoRow.holds Try.pinned (OpenSpec.upto fnLiveSpec)

/-- 'laws.FnTwoSweeps', WHERE WHAT IT READS IS OF BULK AT MOST 1048576: true; the input reads as it did. -/
def fnTwoSweepsUptoRow : OpenClaim := { program := "ytkdenmdijdmnjaa", sum := "7b26a7e805b081e5e5996371451f508fbfb94c074b0338b4a6728874feeac2b2", func := "loop.example/g00248/laws.FnTwoSweeps", spec := "fnTwoSweeps", unfollowed := true, recurses := true, apart := false, narrowed := true }
def FnTwoSweepsUptoSaid : Prop := fnTwoSweepsUptoRow.holds Try.pinned (OpenSpec.upto fnTwoSweepsSpec)

end Rows
end Go.Proofs.Ytkdenmdijdmnjaa
