/-
  NARROWER THAN 'FOR EVERY INPUT', by the rows' own cells (each row's printed sentence says how): FnExactPlainEnd: loops · FnExactHeapsOk: loops · FnExactPlainOf: loops · FnExactHeapsEnd: loops.
  DERIVED. THE GIVEN ROWS OF THIS SEAT. 4 by the template 'for every input the law returns true; each argument reads behind the call as it read before'; 0 by the template 'total and deterministic' (their statements: YtjmkbglnjklbcaaGreatTotals.lean).
  GIVEN WITH THE SEED: the statements are not yours to turn. If you find one false, say at which input.
  Laid BY PROGRAM, IN A SANDBOX (cutbox-rows.mjs): the forced cells as the released guide's own fill.sh prints them over the translation 74e97ac515e631ab… (all of the seat's roots in one cut). By AI agents, Wed Nov 11 2026. No macro, syntax, notation, axiom, sorry.
-/
import Derived.Test.YtjmkbglnjklbcaaGreatChecked
import GoSem.Claim
import GoSem.ClaimJoined
import GoSem.ClaimMapViews
import Derived.JoinedTies
import Derived.KernelRfl
namespace Go.Proofs.YtjmkbglnjklbcaaGreat
/- THE CELL 'sum', in the pinned program and in every row, IS THE sha256 OF THE DUMP (.gsa) THAT YtjmkbglnjklbcaaGreatProg.lean LOADS. Nothing in Lean hashes anything: it is a label: what it is worth is what the hold of that sum in a sandbox is worth. -/
noncomputable def Tryz.pinned : Pinned := { name := "ytjmkbglnjklbcaagreat", sum := "74e97ac515e631abe04102c92111c79501e9591e2486913e11c41c4119eff5ac", checked := Tryz.checked }
namespace Rows
def none {H : Type} : Left H := { results := [], args := [] }

/-- 'laws.FnExactPlainEnd': WHATEVER THE INPUT: true; the input reads as it did. -/
def fnExactPlainEndSpec : ChangeSpec := { name := "fnExactPlainEnd", fn := fun _ => fun
  | [d1, d2, d3] => { results := [.lit (.bool true)], args := [d1, d2, d3] }
  | _ => none }
def fnExactPlainEndRow : OpenClaim := { program := "ytjmkbglnjklbcaagreat", sum := "74e97ac515e631abe04102c92111c79501e9591e2486913e11c41c4119eff5ac", func := "loop.example/g00248/laws.FnExactPlainEnd", spec := "fnExactPlainEnd", inPlace := ["internal/bytealg.IndexByteString"], unfollowed := true, recurses := true, loops := true, apart := false }
def FnExactPlainEndSaid : Prop := fnExactPlainEndRow.holds Tryz.pinned (OpenSpec.ofChange fnExactPlainEndSpec)

/-- ITS FALSE NEIGHBOUR: 'it returns false'. Refute it at one input. -/
def fnExactPlainEndWrong : ChangeSpec := { name := "fnExactPlainEnd", fn := fun _ => fun
  | [d1, d2, d3] => { results := [.lit (.bool false)], args := [d1, d2, d3] }
  | _ => none }
def FnExactPlainEndWrongFalsely : Prop := fnExactPlainEndRow.holds Tryz.pinned (OpenSpec.ofChange fnExactPlainEndWrong)

/-- 'laws.FnExactHeapsOk': WHATEVER THE INPUT: true; the input reads as it did. -/
def fnExactHeapsOkSpec : ChangeSpec := { name := "fnExactHeapsOk", fn := fun _ => fun
  | [d] => { results := [.lit (.bool true)], args := [d] }
  | _ => none }
def fnExactHeapsOkRow : OpenClaim := { program := "ytjmkbglnjklbcaagreat", sum := "74e97ac515e631abe04102c92111c79501e9591e2486913e11c41c4119eff5ac", func := "loop.example/g00248/laws.FnExactHeapsOk", spec := "fnExactHeapsOk", inPlace := ["internal/bytealg.IndexByteString"], unfollowed := true, recurses := true, loops := true, apart := false }
def FnExactHeapsOkSaid : Prop := fnExactHeapsOkRow.holds Tryz.pinned (OpenSpec.ofChange fnExactHeapsOkSpec)

/-- ITS FALSE NEIGHBOUR: 'it returns false'. Refute it at one input. -/
def fnExactHeapsOkWrong : ChangeSpec := { name := "fnExactHeapsOk", fn := fun _ => fun
  | [d] => { results := [.lit (.bool false)], args := [d] }
  | _ => none }
def FnExactHeapsOkWrongFalsely : Prop := fnExactHeapsOkRow.holds Tryz.pinned (OpenSpec.ofChange fnExactHeapsOkWrong)

/-- 'laws.FnExactPlainOf': WHATEVER THE INPUT: true; the input reads as it did. -/
def fnExactPlainOfSpec : ChangeSpec := { name := "fnExactPlainOf", fn := fun _ => fun
  | [d] => { results := [.lit (.bool true)], args := [d] }
  | _ => none }
def fnExactPlainOfRow : OpenClaim := { program := "ytjmkbglnjklbcaagreat", sum := "74e97ac515e631abe04102c92111c79501e9591e2486913e11c41c4119eff5ac", func := "loop.example/g00248/laws.FnExactPlainOf", spec := "fnExactPlainOf", inPlace := ["internal/bytealg.IndexByteString"], unfollowed := true, recurses := true, loops := true, apart := false }
def FnExactPlainOfSaid : Prop := fnExactPlainOfRow.holds Tryz.pinned (OpenSpec.ofChange fnExactPlainOfSpec)

/-- ITS FALSE NEIGHBOUR: 'it returns false'. Refute it at one input. -/
def fnExactPlainOfWrong : ChangeSpec := { name := "fnExactPlainOf", fn := fun _ => fun
  | [d] => { results := [.lit (.bool false)], args := [d] }
  | _ => none }
def FnExactPlainOfWrongFalsely : Prop := fnExactPlainOfRow.holds Tryz.pinned (OpenSpec.ofChange fnExactPlainOfWrong)

/-- 'laws.FnExactHeapsEnd': WHATEVER THE INPUT: true; the input reads as it did. -/
def fnExactHeapsEndSpec : ChangeSpec := { name := "fnExactHeapsEnd", fn := fun _ => fun
  | [d1, d2, d3] => { results := [.lit (.bool true)], args := [d1, d2, d3] }
  | _ => none }
def fnExactHeapsEndRow : OpenClaim := { program := "ytjmkbglnjklbcaagreat", sum := "74e97ac515e631abe04102c92111c79501e9591e2486913e11c41c4119eff5ac", func := "loop.example/g00248/laws.FnExactHeapsEnd", spec := "fnExactHeapsEnd", inPlace := ["internal/bytealg.IndexByteString"], unfollowed := true, recurses := true, loops := true, apart := false }
def FnExactHeapsEndSaid : Prop := fnExactHeapsEndRow.holds Tryz.pinned (OpenSpec.ofChange fnExactHeapsEndSpec)

/-- ITS FALSE NEIGHBOUR: 'it returns false'. Refute it at one input. -/
def fnExactHeapsEndWrong : ChangeSpec := { name := "fnExactHeapsEnd", fn := fun _ => fun
  | [d1, d2, d3] => { results := [.lit (.bool false)], args := [d1, d2, d3] }
  | _ => none }
def FnExactHeapsEndWrongFalsely : Prop := fnExactHeapsEndRow.holds Tryz.pinned (OpenSpec.ofChange fnExactHeapsEndWrong)

/- THE SECOND FORM. 'bulk': how many values and letters a reading holds, each counted each time it is reached (what is shared counts as often as it is met; a slice's spare places count too). A statement '..UptoSaid' is the law's where the arguments, and the package variables that the reading takes, are together of bulk at most 1048576: NARROWER than '..Said'. Prove '..Said' where nothing that the law and all that it calls make is longer than what came in: it says more and counts as full. Else prove '..UptoSaid'. A law counts once. -/
mutual
def uptoBulk {H : Type} : DataW H → Nat
  | .lit (.string bytes) => bytes.length + 1
  | .lit _ => 1
  | .nil => 1
  | .ptr d => uptoBulk d + 1
  | .slice elems spare => uptoBulkAll elems + uptoBulkAll spare + 1
  | .agg parts => uptoBulkAll parts + 1
  | .iface _ d => uptoBulk d + 1
  | .map entries => uptoBulkEntries entries + 1
  | .held _ => 1
def uptoBulkAll {H : Type} : List (DataW H) → Nat
  | [] => 0
  | d :: r => uptoBulk d + uptoBulkAll r
def uptoBulkEntries {H : Type} : List (Lit × DataW H) → Nat
  | [] => 0
  | x :: r => uptoBulkEntry x + uptoBulkEntries r
def uptoBulkEntry {H : Type} : Lit × DataW H → Nat
  | (.string bytes, d) => bytes.length + uptoBulk d + 1
  | (_, d) => uptoBulk d + 1
 end
def uptoSmall : (H : Type) → List (DataW H) → Bool := fun _ ds => decide (uptoBulkAll ds ≤ 1048576)
def OpenSpec.upto (s : _root_.Go.ChangeSpec) : _root_.Go.OpenSpec := { _root_.Go.OpenSpec.ofChange s with cond := some uptoSmall }

/-- 'laws.FnExactPlainEnd', WHERE WHAT IT READS IS OF BULK AT MOST 1048576: true; the input reads as it did. -/
def fnExactPlainEndUptoRow : OpenClaim := { program := "ytjmkbglnjklbcaagreat", sum := "74e97ac515e631abe04102c92111c79501e9591e2486913e11c41c4119eff5ac", func := "loop.example/g00248/laws.FnExactPlainEnd", spec := "fnExactPlainEnd", inPlace := ["internal/bytealg.IndexByteString"], unfollowed := true, recurses := true, loops := true, apart := false, narrowed := true }
def FnExactPlainEndUptoSaid : Prop := fnExactPlainEndUptoRow.holds Tryz.pinned (OpenSpec.upto fnExactPlainEndSpec)

/-- 'laws.FnExactHeapsOk', WHERE WHAT IT READS IS OF BULK AT MOST 1048576: true; the input reads as it did. -/
def fnExactHeapsOkUptoRow : OpenClaim := { program := "ytjmkbglnjklbcaagreat", sum := "74e97ac515e631abe04102c92111c79501e9591e2486913e11c41c4119eff5ac", func := "loop.example/g00248/laws.FnExactHeapsOk", spec := "fnExactHeapsOk", inPlace := ["internal/bytealg.IndexByteString"], unfollowed := true, recurses := true, loops := true, apart := false, narrowed := true }
def FnExactHeapsOkUptoSaid : Prop := fnExactHeapsOkUptoRow.holds Tryz.pinned (OpenSpec.upto fnExactHeapsOkSpec)

/-- 'laws.FnExactPlainOf', WHERE WHAT IT READS IS OF BULK AT MOST 1048576: true; the input reads as it did. -/
def fnExactPlainOfUptoRow : OpenClaim := { program := "ytjmkbglnjklbcaagreat", sum := "74e97ac515e631abe04102c92111c79501e9591e2486913e11c41c4119eff5ac", func := "loop.example/g00248/laws.FnExactPlainOf", spec := "fnExactPlainOf", inPlace := ["internal/bytealg.IndexByteString"], unfollowed := true, recurses := true, loops := true, apart := false, narrowed := true }
def FnExactPlainOfUptoSaid : Prop := fnExactPlainOfUptoRow.holds Tryz.pinned (OpenSpec.upto fnExactPlainOfSpec)

/-- 'laws.FnExactHeapsEnd', WHERE WHAT IT READS IS OF BULK AT MOST 1048576: true; the input reads as it did. -/
def fnExactHeapsEndUptoRow : OpenClaim := { program := "ytjmkbglnjklbcaagreat", sum := "74e97ac515e631abe04102c92111c79501e9591e2486913e11c41c4119eff5ac", func := "loop.example/g00248/laws.FnExactHeapsEnd", spec := "fnExactHeapsEnd", inPlace := ["internal/bytealg.IndexByteString"], unfollowed := true, recurses := true, loops := true, apart := false, narrowed := true }
def FnExactHeapsEndUptoSaid : Prop := fnExactHeapsEndUptoRow.holds Tryz.pinned (OpenSpec.upto fnExactHeapsEndSpec)

end Rows
end Go.Proofs.YtjmkbglnjklbcaaGreat
