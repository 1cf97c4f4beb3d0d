/-
  NARROWER THAN 'FOR EVERY INPUT', by the rows' own cells (each row's printed sentence says how): FnExactActorNew: loops · FnExactActorOk: loops · FnExactPlainOk: loops.
  DERIVED. THE GIVEN ROWS OF THIS SEAT. 8 by the template 'for every input the law returns true; each argument reads behind the call as it read before'; 0 by the template 'total and deterministic' (their statements: YtnmjhhipbfngkaaTotals.lean).
  GIVEN WITH THE SEED: the statements are not yours to turn. If you find one false, say at which input.
  Laid BY PROGRAM, IN A SANDBOX (cutbox-rows.mjs): the forced cells as the released guide's own fill.sh prints them over the translation a27c2b02e5c0cc9f… (all of the seat's roots in one cut). By AI agents, Wed Nov 11 2026. No macro, syntax, notation, axiom, sorry.
-/
import Derived.Test.YtnmjhhipbfngkaaChecked
import GoSem.Claim
import GoSem.ClaimJoined
import GoSem.ClaimMapViews
import Derived.JoinedTies
import Derived.KernelRfl
namespace Go.Proofs.Ytnmjhhipbfngkaa
/- THE CELL 'sum', in the pinned program and in every row, IS THE sha256 OF THE DUMP (.gsa) THAT YtnmjhhipbfngkaaProg.lean LOADS. Nothing in Lean hashes anything: it is a label: what it is worth is what the hold of that sum in a sandbox is worth. -/
noncomputable def Try.pinned : Pinned := { name := "ytnmjhhipbfngkaa", sum := "a27c2b02e5c0cc9f69a782019326cf895b0aa9bea90e27d640d0758fb3e7918d", checked := Try.checked }
namespace Rows
def none {H : Type} : Left H := { results := [], args := [] }

/-- 'laws.FnExactActorNew': WHATEVER THE INPUT: true; the input reads as it did. -/
def fnExactActorNewSpec : ChangeSpec := { name := "fnExactActorNew", fn := fun _ => fun
  | [d1, d2, d3] => { results := [.lit (.bool true)], args := [d1, d2, d3] }
  | _ => none }
def fnExactActorNewRow : OpenClaim := { program := "ytnmjhhipbfngkaa", sum := "a27c2b02e5c0cc9f69a782019326cf895b0aa9bea90e27d640d0758fb3e7918d", func := "loop.example/g00248/laws.FnExactActorNew", spec := "fnExactActorNew", recurses := true, loops := true, apart := false }
def FnExactActorNewSaid : Prop := fnExactActorNewRow.holds Try.pinned (OpenSpec.ofChange fnExactActorNewSpec)

/-- ITS FALSE NEIGHBOUR: 'it returns false'. Refute it at one input. -/
def fnExactActorNewWrong : ChangeSpec := { name := "fnExactActorNew", fn := fun _ => fun
  | [d1, d2, d3] => { results := [.lit (.bool false)], args := [d1, d2, d3] }
  | _ => none }
def FnExactActorNewWrongFalsely : Prop := fnExactActorNewRow.holds Try.pinned (OpenSpec.ofChange fnExactActorNewWrong)

/-- 'laws.FnExactPutCode': WHATEVER THE INPUT: true; the input reads as it did. -/
def fnExactPutCodeSpec : ChangeSpec := { name := "fnExactPutCode", fn := fun _ => fun
  | [d] => { results := [.lit (.bool true)], args := [d] }
  | _ => none }
def fnExactPutCodeRow : OpenClaim := { program := "ytnmjhhipbfngkaa", sum := "a27c2b02e5c0cc9f69a782019326cf895b0aa9bea90e27d640d0758fb3e7918d", func := "loop.example/g00248/laws.FnExactPutCode", spec := "fnExactPutCode", inPlace := ["internal/bytealg.IndexByteString"], unfollowed := true, recurses := true, apart := false }
def FnExactPutCodeSaid : Prop := fnExactPutCodeRow.holds Try.pinned (OpenSpec.ofChange fnExactPutCodeSpec)

/-- ITS FALSE NEIGHBOUR: 'it returns false'. Refute it at one input. -/
def fnExactPutCodeWrong : ChangeSpec := { name := "fnExactPutCode", fn := fun _ => fun
  | [d] => { results := [.lit (.bool false)], args := [d] }
  | _ => none }
def FnExactPutCodeWrongFalsely : Prop := fnExactPutCodeRow.holds Try.pinned (OpenSpec.ofChange fnExactPutCodeWrong)

/-- 'laws.FnExactGetCode': WHATEVER THE INPUT: true; the input reads as it did. -/
def fnExactGetCodeSpec : ChangeSpec := { name := "fnExactGetCode", fn := fun _ => fun
  | [d] => { results := [.lit (.bool true)], args := [d] }
  | _ => none }
def fnExactGetCodeRow : OpenClaim := { program := "ytnmjhhipbfngkaa", sum := "a27c2b02e5c0cc9f69a782019326cf895b0aa9bea90e27d640d0758fb3e7918d", func := "loop.example/g00248/laws.FnExactGetCode", spec := "fnExactGetCode", inPlace := ["internal/bytealg.IndexByteString"], unfollowed := true, recurses := true, apart := false }
def FnExactGetCodeSaid : Prop := fnExactGetCodeRow.holds Try.pinned (OpenSpec.ofChange fnExactGetCodeSpec)

/-- ITS FALSE NEIGHBOUR: 'it returns false'. Refute it at one input. -/
def fnExactGetCodeWrong : ChangeSpec := { name := "fnExactGetCode", fn := fun _ => fun
  | [d] => { results := [.lit (.bool false)], args := [d] }
  | _ => none }
def FnExactGetCodeWrongFalsely : Prop := fnExactGetCodeRow.holds Try.pinned (OpenSpec.ofChange fnExactGetCodeWrong)

/-- 'laws.FnCut': WHATEVER THE INPUT: true; the input reads as it did. -/
def fnCutSpec : ChangeSpec := { name := "fnCut", fn := fun _ => fun
  | [d] => { results := [.lit (.bool true)], args := [d] }
  | _ => none }
def fnCutRow : OpenClaim := { program := "ytnmjhhipbfngkaa", sum := "a27c2b02e5c0cc9f69a782019326cf895b0aa9bea90e27d640d0758fb3e7918d", func := "loop.example/g00248/laws.FnCut", spec := "fnCut", inPlace := ["internal/bytealg.IndexByteString"], unfollowed := true, recurses := true, apart := false }
def FnCutSaid : Prop := fnCutRow.holds Try.pinned (OpenSpec.ofChange fnCutSpec)

/-- ITS FALSE NEIGHBOUR: 'it returns false'. Refute it at one input. -/
def fnCutWrong : ChangeSpec := { name := "fnCut", fn := fun _ => fun
  | [d] => { results := [.lit (.bool false)], args := [d] }
  | _ => none }
def FnCutWrongFalsely : Prop := fnCutRow.holds Try.pinned (OpenSpec.ofChange fnCutWrong)

/-- 'laws.FnExactActorOk': WHATEVER THE INPUT: true; the input reads as it did. -/
def fnExactActorOkSpec : ChangeSpec := { name := "fnExactActorOk", fn := fun _ => fun
  | [d1, d2] => { results := [.lit (.bool true)], args := [d1, d2] }
  | _ => none }
def fnExactActorOkRow : OpenClaim := { program := "ytnmjhhipbfngkaa", sum := "a27c2b02e5c0cc9f69a782019326cf895b0aa9bea90e27d640d0758fb3e7918d", func := "loop.example/g00248/laws.FnExactActorOk", spec := "fnExactActorOk", inPlace := ["internal/bytealg.IndexByteString"], unfollowed := true, recurses := true, loops := true, apart := false }
def FnExactActorOkSaid : Prop := fnExactActorOkRow.holds Try.pinned (OpenSpec.ofChange fnExactActorOkSpec)

/-- ITS FALSE NEIGHBOUR: 'it returns false'. Refute it at one input. -/
def fnExactActorOkWrong : ChangeSpec := { name := "fnExactActorOk", fn := fun _ => fun
  | [d1, d2] => { results := [.lit (.bool false)], args := [d1, d2] }
  | _ => none }
def FnExactActorOkWrongFalsely : Prop := fnExactActorOkRow.holds Try.pinned (OpenSpec.ofChange fnExactActorOkWrong)

/-- 'laws.FnExactPlainOk': WHATEVER THE INPUT: true; the input reads as it did. -/
def fnExactPlainOkSpec : ChangeSpec := { name := "fnExactPlainOk", fn := fun _ => fun
  | [d] => { results := [.lit (.bool true)], args := [d] }
  | _ => none }
def fnExactPlainOkRow : OpenClaim := { program := "ytnmjhhipbfngkaa", sum := "a27c2b02e5c0cc9f69a782019326cf895b0aa9bea90e27d640d0758fb3e7918d", func := "loop.example/g00248/laws.FnExactPlainOk", spec := "fnExactPlainOk", inPlace := ["internal/bytealg.IndexByteString"], unfollowed := true, recurses := true, loops := true, apart := false }
def FnExactPlainOkSaid : Prop := fnExactPlainOkRow.holds Try.pinned (OpenSpec.ofChange fnExactPlainOkSpec)

/-- ITS FALSE NEIGHBOUR: 'it returns false'. Refute it at one input. -/
def fnExactPlainOkWrong : ChangeSpec := { name := "fnExactPlainOk", fn := fun _ => fun
  | [d] => { results := [.lit (.bool false)], args := [d] }
  | _ => none }
def FnExactPlainOkWrongFalsely : Prop := fnExactPlainOkRow.holds Try.pinned (OpenSpec.ofChange fnExactPlainOkWrong)

/-- 'laws.FnActors': WHATEVER THE INPUT: true; the input reads as it did. -/
def fnActorsSpec : ChangeSpec := { name := "fnActors", fn := fun _ => fun
  | [d] => { results := [.lit (.bool true)], args := [d] }
  | _ => none }
def fnActorsRow : OpenClaim := { program := "ytnmjhhipbfngkaa", sum := "a27c2b02e5c0cc9f69a782019326cf895b0aa9bea90e27d640d0758fb3e7918d", func := "loop.example/g00248/laws.FnActors", spec := "fnActors", inPlace := ["internal/bytealg.IndexByteString"], unfollowed := true, recurses := true, apart := false }
def FnActorsSaid : Prop := fnActorsRow.holds Try.pinned (OpenSpec.ofChange fnActorsSpec)

/-- ITS FALSE NEIGHBOUR: 'it returns false'. Refute it at one input. -/
def fnActorsWrong : ChangeSpec := { name := "fnActors", fn := fun _ => fun
  | [d] => { results := [.lit (.bool false)], args := [d] }
  | _ => none }
def FnActorsWrongFalsely : Prop := fnActorsRow.holds Try.pinned (OpenSpec.ofChange fnActorsWrong)

/-- 'laws.FnExactActorOf': WHATEVER THE INPUT: true; the input reads as it did. -/
def fnExactActorOfSpec : ChangeSpec := { name := "fnExactActorOf", fn := fun _ => fun
  | [d1, d2, d3] => { results := [.lit (.bool true)], args := [d1, d2, d3] }
  | _ => none }
def fnExactActorOfRow : OpenClaim := { program := "ytnmjhhipbfngkaa", sum := "a27c2b02e5c0cc9f69a782019326cf895b0aa9bea90e27d640d0758fb3e7918d", func := "loop.example/g00248/laws.FnExactActorOf", spec := "fnExactActorOf", unfollowed := true, recurses := true, apart := false }
def FnExactActorOfSaid : Prop := fnExactActorOfRow.holds Try.pinned (OpenSpec.ofChange fnExactActorOfSpec)

/-- ITS FALSE NEIGHBOUR: 'it returns false'. Refute it at one input. -/
def fnExactActorOfWrong : ChangeSpec := { name := "fnExactActorOf", fn := fun _ => fun
  | [d1, d2, d3] => { results := [.lit (.bool false)], args := [d1, d2, d3] }
  | _ => none }
def FnExactActorOfWrongFalsely : Prop := fnExactActorOfRow.holds Try.pinned (OpenSpec.ofChange fnExactActorOfWrong)

/- THE SECOND FORM. 'bulk': how many values and letters a reading holds, each counted each time it is reached (what is shared counts as often as it is met; a slice's spare places count too). A statement '..UptoSaid' is the law's where the arguments, and the package variables that the reading takes, are together of bulk at most 1048576: NARROWER than '..Said'. Prove '..Said' where nothing that the law and all that it calls make is longer than what came in: it says more and counts as full. Else prove '..UptoSaid'. A law counts once. -/
mutual
def uptoBulk {H : Type} : DataW H → Nat
  | .lit (.string bytes) => bytes.length + 1
  | .lit _ => 1
  | .nil => 1
  | .ptr d => uptoBulk d + 1
  | .slice elems spare => uptoBulkAll elems + uptoBulkAll spare + 1
  | .agg parts => uptoBulkAll parts + 1
  | .iface _ d => uptoBulk d + 1
  | .map entries => uptoBulkEntries entries + 1
  | .held _ => 1
def uptoBulkAll {H : Type} : List (DataW H) → Nat
  | [] => 0
  | d :: r => uptoBulk d + uptoBulkAll r
def uptoBulkEntries {H : Type} : List (Lit × DataW H) → Nat
  | [] => 0
  | x :: r => uptoBulkEntry x + uptoBulkEntries r
def uptoBulkEntry {H : Type} : Lit × DataW H → Nat
  | (.string bytes, d) => bytes.length + uptoBulk d + 1
  | (_, d) => uptoBulk d + 1
 end
def uptoSmall : (H : Type) → List (DataW H) → Bool := fun _ ds => decide (uptoBulkAll ds ≤ 1048576)
def OpenSpec.upto (s : _root_.Go.ChangeSpec) : _root_.Go.OpenSpec := { _root_.Go.OpenSpec.ofChange s with cond := some uptoSmall }

/-- 'laws.FnExactActorNew', WHERE WHAT IT READS IS OF BULK AT MOST 1048576: true; the input reads as it did. -/
def fnExactActorNewUptoRow : OpenClaim := { program := "ytnmjhhipbfngkaa", sum := "a27c2b02e5c0cc9f69a782019326cf895b0aa9bea90e27d640d0758fb3e7918d", func := "loop.example/g00248/laws.FnExactActorNew", spec := "fnExactActorNew", recurses := true, loops := true, apart := false, narrowed := true }
def FnExactActorNewUptoSaid : Prop := fnExactActorNewUptoRow.holds Try.pinned (OpenSpec.upto fnExactActorNewSpec)

/-- 'laws.FnExactPutCode', WHERE WHAT IT READS IS OF BULK AT MOST 1048576: true; the input reads as it did. -/
def fnExactPutCodeUptoRow : OpenClaim := { program := "ytnmjhhipbfngkaa", sum := "a27c2b02e5c0cc9f69a782019326cf895b0aa9bea90e27d640d0758fb3e7918d", func := "loop.example/g00248/laws.FnExactPutCode", spec := "fnExactPutCode", inPlace := ["internal/bytealg.IndexByteString"], unfollowed := true, recurses := true, apart := false, narrowed := true }
def FnExactPutCodeUptoSaid : Prop := fnExactPutCodeUptoRow.holds Try.pinned (OpenSpec.upto fnExactPutCodeSpec)

/-- 'laws.FnExactGetCode', WHERE WHAT IT READS IS OF BULK AT MOST 1048576: true; the input reads as it did. -/
def fnExactGetCodeUptoRow : OpenClaim := { program := "ytnmjhhipbfngkaa", sum := "a27c2b02e5c0cc9f69a782019326cf895b0aa9bea90e27d640d0758fb3e7918d", func := "loop.example/g00248/laws.FnExactGetCode", spec := "fnExactGetCode", inPlace := ["internal/bytealg.IndexByteString"], unfollowed := true, recurses := true, apart := false, narrowed := true }
def FnExactGetCodeUptoSaid : Prop := fnExactGetCodeUptoRow.holds Try.pinned (OpenSpec.upto fnExactGetCodeSpec)

/-- 'laws.FnCut', WHERE WHAT IT READS IS OF BULK AT MOST 1048576: true; the input reads as it did. -/
def fnCutUptoRow : OpenClaim := { program := "ytnmjhhipbfngkaa", sum := "a27c2b02e5c0cc9f69a782019326cf895b0aa9bea90e27d640d0758fb3e7918d", func := "loop.example/g00248/laws.FnCut", spec := "fnCut", inPlace := ["internal/bytealg.IndexByteString"], unfollowed := true, recurses := true, apart := false, narrowed := true }
def FnCutUptoSaid : Prop := fnCutUptoRow.holds Try.pinned (OpenSpec.upto fnCutSpec)

/-- 'laws.FnExactActorOk', WHERE WHAT IT READS IS OF BULK AT MOST 1048576: true; the input reads as it did. -/
def fnExactActorOkUptoRow : OpenClaim := { program := "ytnmjhhipbfngkaa", sum := "a27c2b02e5c0cc9f69a782019326cf895b0aa9bea90e27d640d0758fb3e7918d", func := "loop.example/g00248/laws.FnExactActorOk", spec := "fnExactActorOk", inPlace := ["internal/bytealg.IndexByteString"], unfollowed := true, recurses := true, loops := true, apart := false, narrowed := true }
def FnExactActorOkUptoSaid : Prop := fnExactActorOkUptoRow.holds Try.pinned (OpenSpec.upto fnExactActorOkSpec)

/-- 'laws.FnExactPlainOk', WHERE WHAT IT READS IS OF BULK AT MOST 1048576: true; the input reads as it did. -/
def fnExactPlainOkUptoRow : OpenClaim := { program := "ytnmjhhipbfngkaa", sum := "a27c2b02e5c0cc9f69a782019326cf895b0aa9bea90e27d640d0758fb3e7918d", func := "loop.example/g00248/laws.FnExactPlainOk", spec := "fnExactPlainOk", inPlace := ["internal/bytealg.IndexByteString"], unfollowed := true, recurses := true, loops := true, apart := false, narrowed := true }
def FnExactPlainOkUptoSaid : Prop := fnExactPlainOkUptoRow.holds Try.pinned (OpenSpec.upto fnExactPlainOkSpec)

/-- 'laws.FnActors', WHERE WHAT IT READS IS OF BULK AT MOST 1048576: true; the input reads as it did. -/
def fnActorsUptoRow : OpenClaim := { program := "ytnmjhhipbfngkaa", sum := "a27c2b02e5c0cc9f69a782019326cf895b0aa9bea90e27d640d0758fb3e7918d", func := "loop.example/g00248/laws.FnActors", spec := "fnActors", inPlace := ["internal/bytealg.IndexByteString"], unfollowed := true, recurses := true, apart := false, narrowed := true }
def FnActorsUptoSaid : Prop := fnActorsUptoRow.holds Try.pinned (OpenSpec.upto fnActorsSpec)

/-- 'laws.FnExactActorOf', WHERE WHAT IT READS IS OF BULK AT MOST 1048576: true; the input reads as it did. -/
def fnExactActorOfUptoRow : OpenClaim := { program := "ytnmjhhipbfngkaa", sum := "a27c2b02e5c0cc9f69a782019326cf895b0aa9bea90e27d640d0758fb3e7918d", func := "loop.example/g00248/laws.FnExactActorOf", spec := "fnExactActorOf", unfollowed := true, recurses := true, apart := false, narrowed := true }
def FnExactActorOfUptoSaid : Prop := fnExactActorOfUptoRow.holds Try.pinned (OpenSpec.upto fnExactActorOfSpec)

end Rows
end Go.Proofs.Ytnmjhhipbfngkaa
