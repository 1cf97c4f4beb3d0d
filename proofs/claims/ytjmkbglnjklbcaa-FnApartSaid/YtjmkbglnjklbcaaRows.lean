/-
  NARROWER THAN 'FOR EVERY INPUT', by the rows' own cells (each row's printed sentence says how): FnExactPutTerm: loops · FnExactGensPut: loops.
  DERIVED. THE GIVEN ROWS OF THIS SEAT. 8 by the template 'for every input the law returns true; each argument reads behind the call as it read before'; 0 by the template 'total and deterministic' (their statements: YtjmkbglnjklbcaaTotals.lean).
  GIVEN WITH THE SEED: the statements are not yours to turn. If you find one false, say at which input.
  Laid BY PROGRAM, IN A SANDBOX (cutbox-rows.mjs): the forced cells as the released guide's own fill.sh prints them over the translation b04309c7a0fe28d6… (all of the seat's roots in one cut). By AI agents, Wed Nov 11 2026. No macro, syntax, notation, axiom, sorry.
-/
import Derived.Test.YtjmkbglnjklbcaaChecked
import GoSem.Claim
import GoSem.ClaimJoined
import GoSem.ClaimMapViews
import Derived.JoinedTies
import Derived.KernelRfl
namespace Go.Proofs.Ytjmkbglnjklbcaa
/- THE CELL 'sum', in the pinned program and in every row, IS THE sha256 OF THE DUMP (.gsa) THAT YtjmkbglnjklbcaaProg.lean LOADS. Nothing in Lean hashes anything: it is a label: what it is worth is what the hold of that sum in a sandbox is worth. -/
noncomputable def Try.pinned : Pinned := { name := "ytjmkbglnjklbcaa", sum := "b04309c7a0fe28d6a74c9a1a8340a9f73f9a4fb937767434ce4487302f1c01ab", checked := Try.checked }
namespace Rows
def none {H : Type} : Left H := { results := [], args := [] }

/-- 'laws.FnExactPutTerm': WHATEVER THE INPUT: true; the input reads as it did. -/
def fnExactPutTermSpec : ChangeSpec := { name := "fnExactPutTerm", fn := fun _ => fun
  | [d1, d2, d3] => { results := [.lit (.bool true)], args := [d1, d2, d3] }
  | _ => none }
def fnExactPutTermRow : OpenClaim := { program := "ytjmkbglnjklbcaa", sum := "b04309c7a0fe28d6a74c9a1a8340a9f73f9a4fb937767434ce4487302f1c01ab", func := "loop.example/g00248/laws.FnExactPutTerm", spec := "fnExactPutTerm", recurses := true, loops := true, apart := false }
def FnExactPutTermSaid : Prop := fnExactPutTermRow.holds Try.pinned (OpenSpec.ofChange fnExactPutTermSpec)

/-- ITS FALSE NEIGHBOUR: 'it returns false'. Refute it at one input. -/
def fnExactPutTermWrong : ChangeSpec := { name := "fnExactPutTerm", fn := fun _ => fun
  | [d1, d2, d3] => { results := [.lit (.bool false)], args := [d1, d2, d3] }
  | _ => none }
def FnExactPutTermWrongFalsely : Prop := fnExactPutTermRow.holds Try.pinned (OpenSpec.ofChange fnExactPutTermWrong)

/-- 'laws.FnExactGensPut': WHATEVER THE INPUT: true; the input reads as it did. -/
def fnExactGensPutSpec : ChangeSpec := { name := "fnExactGensPut", fn := fun _ => fun
  | [d1, d2, d3] => { results := [.lit (.bool true)], args := [d1, d2, d3] }
  | _ => none }
def fnExactGensPutRow : OpenClaim := { program := "ytjmkbglnjklbcaa", sum := "b04309c7a0fe28d6a74c9a1a8340a9f73f9a4fb937767434ce4487302f1c01ab", func := "loop.example/g00248/laws.FnExactGensPut", spec := "fnExactGensPut", recurses := true, loops := true, apart := false }
def FnExactGensPutSaid : Prop := fnExactGensPutRow.holds Try.pinned (OpenSpec.ofChange fnExactGensPutSpec)

/-- ITS FALSE NEIGHBOUR: 'it returns false'. Refute it at one input. -/
def fnExactGensPutWrong : ChangeSpec := { name := "fnExactGensPut", fn := fun _ => fun
  | [d1, d2, d3] => { results := [.lit (.bool false)], args := [d1, d2, d3] }
  | _ => none }
def FnExactGensPutWrongFalsely : Prop := fnExactGensPutRow.holds Try.pinned (OpenSpec.ofChange fnExactGensPutWrong)

/-- 'laws.FnExactGensOk': WHATEVER THE INPUT: true; the input reads as it did. -/
def fnExactGensOkSpec : ChangeSpec := { name := "fnExactGensOk", fn := fun _ => fun
  | [d1, d2, d3] => { results := [.lit (.bool true)], args := [d1, d2, d3] }
  | _ => none }
def fnExactGensOkRow : OpenClaim := { program := "ytjmkbglnjklbcaa", sum := "b04309c7a0fe28d6a74c9a1a8340a9f73f9a4fb937767434ce4487302f1c01ab", func := "loop.example/g00248/laws.FnExactGensOk", spec := "fnExactGensOk", unfollowed := true, recurses := true, apart := false }
def FnExactGensOkSaid : Prop := fnExactGensOkRow.holds Try.pinned (OpenSpec.ofChange fnExactGensOkSpec)

/-- ITS FALSE NEIGHBOUR: 'it returns false'. Refute it at one input. -/
def fnExactGensOkWrong : ChangeSpec := { name := "fnExactGensOk", fn := fun _ => fun
  | [d1, d2, d3] => { results := [.lit (.bool false)], args := [d1, d2, d3] }
  | _ => none }
def FnExactGensOkWrongFalsely : Prop := fnExactGensOkRow.holds Try.pinned (OpenSpec.ofChange fnExactGensOkWrong)

/-- 'laws.FnActors': WHATEVER THE INPUT: true; the input reads as it did. -/
def fnActorsSpec : ChangeSpec := { name := "fnActors", fn := fun _ => fun
  | [d] => { results := [.lit (.bool true)], args := [d] }
  | _ => none }
def fnActorsRow : OpenClaim := { program := "ytjmkbglnjklbcaa", sum := "b04309c7a0fe28d6a74c9a1a8340a9f73f9a4fb937767434ce4487302f1c01ab", func := "loop.example/g00248/laws.FnActors", spec := "fnActors", inPlace := ["internal/bytealg.IndexByteString"], unfollowed := true, recurses := true, apart := false }
def FnActorsSaid : Prop := fnActorsRow.holds Try.pinned (OpenSpec.ofChange fnActorsSpec)

/-- ITS FALSE NEIGHBOUR: 'it returns false'. Refute it at one input. -/
def fnActorsWrong : ChangeSpec := { name := "fnActors", fn := fun _ => fun
  | [d] => { results := [.lit (.bool false)], args := [d] }
  | _ => none }
def FnActorsWrongFalsely : Prop := fnActorsRow.holds Try.pinned (OpenSpec.ofChange fnActorsWrong)

/-- 'laws.FnExactActorOf': WHATEVER THE INPUT: true; the input reads as it did. -/
def fnExactActorOfSpec : ChangeSpec := { name := "fnExactActorOf", fn := fun _ => fun
  | [d1, d2, d3] => { results := [.lit (.bool true)], args := [d1, d2, d3] }
  | _ => none }
def fnExactActorOfRow : OpenClaim := { program := "ytjmkbglnjklbcaa", sum := "b04309c7a0fe28d6a74c9a1a8340a9f73f9a4fb937767434ce4487302f1c01ab", func := "loop.example/g00248/laws.FnExactActorOf", spec := "fnExactActorOf", unfollowed := true, recurses := true, apart := false }
def FnExactActorOfSaid : Prop := fnExactActorOfRow.holds Try.pinned (OpenSpec.ofChange fnExactActorOfSpec)

/-- ITS FALSE NEIGHBOUR: 'it returns false'. Refute it at one input. -/
def fnExactActorOfWrong : ChangeSpec := { name := "fnExactActorOf", fn := fun _ => fun
  | [d1, d2, d3] => { results := [.lit (.bool false)], args := [d1, d2, d3] }
  | _ => none }
def FnExactActorOfWrongFalsely : Prop := fnExactActorOfRow.holds Try.pinned (OpenSpec.ofChange fnExactActorOfWrong)

/-- 'laws.FnExactCellOk': WHATEVER THE INPUT: true; the input reads as it did. -/
def fnExactCellOkSpec : ChangeSpec := { name := "fnExactCellOk", fn := fun _ => fun
  | [d1, d2, d3, d4] => { results := [.lit (.bool true)], args := [d1, d2, d3, d4] }
  | _ => none }
def fnExactCellOkRow : OpenClaim := { program := "ytjmkbglnjklbcaa", sum := "b04309c7a0fe28d6a74c9a1a8340a9f73f9a4fb937767434ce4487302f1c01ab", func := "loop.example/g00248/laws.FnExactCellOk", spec := "fnExactCellOk", inPlace := ["internal/bytealg.IndexByteString"], unfollowed := true, recurses := true, apart := false }
def FnExactCellOkSaid : Prop := fnExactCellOkRow.holds Try.pinned (OpenSpec.ofChange fnExactCellOkSpec)

/-- ITS FALSE NEIGHBOUR: 'it returns false'. Refute it at one input. -/
def fnExactCellOkWrong : ChangeSpec := { name := "fnExactCellOk", fn := fun _ => fun
  | [d1, d2, d3, d4] => { results := [.lit (.bool false)], args := [d1, d2, d3, d4] }
  | _ => none }
def FnExactCellOkWrongFalsely : Prop := fnExactCellOkRow.holds Try.pinned (OpenSpec.ofChange fnExactCellOkWrong)

/-- 'laws.FnApart': WHATEVER THE INPUT: true; the input reads as it did. -/
def fnApartSpec : ChangeSpec := { name := "fnApart", fn := fun _ => fun
  | [d] => { results := [.lit (.bool true)], args := [d] }
  | _ => none }
def fnApartRow : OpenClaim := { program := "ytjmkbglnjklbcaa", sum := "b04309c7a0fe28d6a74c9a1a8340a9f73f9a4fb937767434ce4487302f1c01ab", func := "loop.example/g00248/laws.FnApart", spec := "fnApart", apart := false }
def FnApartSaid : Prop := fnApartRow.holds Try.pinned (OpenSpec.ofChange fnApartSpec)

/-- ITS FALSE NEIGHBOUR: 'it returns false'. Refute it at one input. -/
def fnApartWrong : ChangeSpec := { name := "fnApart", fn := fun _ => fun
  | [d] => { results := [.lit (.bool false)], args := [d] }
  | _ => none }
def FnApartWrongFalsely : Prop := fnApartRow.holds Try.pinned (OpenSpec.ofChange fnApartWrong)

/-- 'laws.FnStruck': WHATEVER THE INPUT: true; the input reads as it did. -/
def fnStruckSpec : ChangeSpec := { name := "fnStruck", fn := fun _ => fun
  | [d] => { results := [.lit (.bool true)], args := [d] }
  | _ => none }
def fnStruckRow : OpenClaim := { program := "ytjmkbglnjklbcaa", sum := "b04309c7a0fe28d6a74c9a1a8340a9f73f9a4fb937767434ce4487302f1c01ab", func := "loop.example/g00248/laws.FnStruck", spec := "fnStruck", apart := false }
def FnStruckSaid : Prop := fnStruckRow.holds Try.pinned (OpenSpec.ofChange fnStruckSpec)

/-- ITS FALSE NEIGHBOUR: 'it returns false'. Refute it at one input. -/
def fnStruckWrong : ChangeSpec := { name := "fnStruck", fn := fun _ => fun
  | [d] => { results := [.lit (.bool false)], args := [d] }
  | _ => none }
def FnStruckWrongFalsely : Prop := fnStruckRow.holds Try.pinned (OpenSpec.ofChange fnStruckWrong)

/- THE SECOND FORM. 'bulk': how many values and letters a reading holds, each counted each time it is reached (what is shared counts as often as it is met; a slice's spare places count too). A statement '..UptoSaid' is the law's where the arguments, and the package variables that the reading takes, are together of bulk at most 1048576: NARROWER than '..Said'. Prove '..Said' where nothing that the law and all that it calls make is longer than what came in: it says more and counts as full. Else prove '..UptoSaid'. A law counts once. -/
mutual
def uptoBulk {H : Type} : DataW H → Nat
  | .lit (.string bytes) => bytes.length + 1
  | .lit _ => 1
  | .nil => 1
  | .ptr d => uptoBulk d + 1
  | .slice elems spare => uptoBulkAll elems + uptoBulkAll spare + 1
  | .agg parts => uptoBulkAll parts + 1
  | .iface _ d => uptoBulk d + 1
  | .map entries => uptoBulkEntries entries + 1
  | .held _ => 1
def uptoBulkAll {H : Type} : List (DataW H) → Nat
  | [] => 0
  | d :: r => uptoBulk d + uptoBulkAll r
def uptoBulkEntries {H : Type} : List (Lit × DataW H) → Nat
  | [] => 0
  | x :: r => uptoBulkEntry x + uptoBulkEntries r
def uptoBulkEntry {H : Type} : Lit × DataW H → Nat
  | (.string bytes, d) => bytes.length + uptoBulk d + 1
  | (_, d) => uptoBulk d + 1
 end
def uptoSmall : (H : Type) → List (DataW H) → Bool := fun _ ds => decide (uptoBulkAll ds ≤ 1048576)
def OpenSpec.upto (s : _root_.Go.ChangeSpec) : _root_.Go.OpenSpec := { _root_.Go.OpenSpec.ofChange s with cond := some uptoSmall }

/-- 'laws.FnExactPutTerm', WHERE WHAT IT READS IS OF BULK AT MOST 1048576: true; the input reads as it did. -/
def fnExactPutTermUptoRow : OpenClaim := { program := "ytjmkbglnjklbcaa", sum := "b04309c7a0fe28d6a74c9a1a8340a9f73f9a4fb937767434ce4487302f1c01ab", func := "loop.example/g00248/laws.FnExactPutTerm", spec := "fnExactPutTerm", recurses := true, loops := true, apart := false, narrowed := true }
def FnExactPutTermUptoSaid : Prop := fnExactPutTermUptoRow.holds Try.pinned (OpenSpec.upto fnExactPutTermSpec)

/-- 'laws.FnExactGensPut', WHERE WHAT IT READS IS OF BULK AT MOST 1048576: true; the input reads as it did. -/
def fnExactGensPutUptoRow : OpenClaim := { program := "ytjmkbglnjklbcaa", sum := "b04309c7a0fe28d6a74c9a1a8340a9f73f9a4fb937767434ce4487302f1c01ab", func := "loop.example/g00248/laws.FnExactGensPut", spec := "fnExactGensPut", recurses := true, loops := true, apart := false, narrowed := true }
def FnExactGensPutUptoSaid : Prop := fnExactGensPutUptoRow.holds Try.pinned (OpenSpec.upto fnExactGensPutSpec)

/-- 'laws.FnExactGensOk', WHERE WHAT IT READS IS OF BULK AT MOST 1048576: true; the input reads as it did. -/
def fnExactGensOkUptoRow : OpenClaim := { program := "ytjmkbglnjklbcaa", sum := "b04309c7a0fe28d6a74c9a1a8340a9f73f9a4fb937767434ce4487302f1c01ab", func := "loop.example/g00248/laws.FnExactGensOk", spec := "fnExactGensOk", unfollowed := true, recurses := true, apart := false, narrowed := true }
def FnExactGensOkUptoSaid : Prop := fnExactGensOkUptoRow.holds Try.pinned (OpenSpec.upto fnExactGensOkSpec)

/-- 'laws.FnActors', WHERE WHAT IT READS IS OF BULK AT MOST 1048576: true; the input reads as it did. -/
def fnActorsUptoRow : OpenClaim := { program := "ytjmkbglnjklbcaa", sum := "b04309c7a0fe28d6a74c9a1a8340a9f73f9a4fb937767434ce4487302f1c01ab", func := "loop.example/g00248/laws.FnActors", spec := "fnActors", inPlace := ["internal/bytealg.IndexByteString"], unfollowed := true, recurses := true, apart := false, narrowed := true }
def FnActorsUptoSaid : Prop := fnActorsUptoRow.holds Try.pinned (OpenSpec.upto fnActorsSpec)

/-- 'laws.FnExactActorOf', WHERE WHAT IT READS IS OF BULK AT MOST 1048576: true; the input reads as it did. -/
def fnExactActorOfUptoRow : OpenClaim := { program := "ytjmkbglnjklbcaa", sum := "b04309c7a0fe28d6a74c9a1a8340a9f73f9a4fb937767434ce4487302f1c01ab", func := "loop.example/g00248/laws.FnExactActorOf", spec := "fnExactActorOf", unfollowed := true, recurses := true, apart := false, narrowed := true }
def FnExactActorOfUptoSaid : Prop := fnExactActorOfUptoRow.holds Try.pinned (OpenSpec.upto fnExactActorOfSpec)

/-- 'laws.FnExactCellOk', WHERE WHAT IT READS IS OF BULK AT MOST 1048576: true; the input reads as it did. -/
def fnExactCellOkUptoRow : OpenClaim := { program := "ytjmkbglnjklbcaa", sum := "b04309c7a0fe28d6a74c9a1a8340a9f73f9a4fb937767434ce4487302f1c01ab", func := "loop.example/g00248/laws.FnExactCellOk", spec := "fnExactCellOk", inPlace := ["internal/bytealg.IndexByteString"], unfollowed := true, recurses := true, apart := false, narrowed := true }
def FnExactCellOkUptoSaid : Prop := fnExactCellOkUptoRow.holds Try.pinned (OpenSpec.upto fnExactCellOkSpec)

/-- 'laws.FnApart', WHERE WHAT IT READS IS OF BULK AT MOST 1048576: true; the input reads as it did. -/
def fnApartUptoRow : OpenClaim := { program := "ytjmkbglnjklbcaa", sum := "b04309c7a0fe28d6a74c9a1a8340a9f73f9a4fb937767434ce4487302f1c01ab", func := "loop.example/g00248/laws.FnApart", spec := "fnApart", apart := false, narrowed := true }
def FnApartUptoSaid : Prop := fnApartUptoRow.holds Try.pinned (OpenSpec.upto fnApartSpec)

/-- 'laws.FnStruck', WHERE WHAT IT READS IS OF BULK AT MOST 1048576: true; the input reads as it did. -/
def fnStruckUptoRow : OpenClaim := { program := "ytjmkbglnjklbcaa", sum := "b04309c7a0fe28d6a74c9a1a8340a9f73f9a4fb937767434ce4487302f1c01ab", func := "loop.example/g00248/laws.FnStruck", spec := "fnStruck", apart := false, narrowed := true }
def FnStruckUptoSaid : Prop := fnStruckUptoRow.holds Try.pinned (OpenSpec.upto fnStruckSpec)

end Rows
end Go.Proofs.Ytjmkbglnjklbcaa
