/-
  NARROWER THAN 'FOR EVERY INPUT', by the rows' own cells (each row's printed sentence says how): FnExactNoRooms: loops · FnExactTimersOk: loops · FnExactDropTimers: loops · FnExactDueTimers: loops.
  DERIVED. THE GIVEN ROWS OF THIS SEAT. 12 by the template 'for every input the law returns true; each argument reads behind the call as it read before'; 0 by the template 'total and deterministic' (their statements: YtgigdaijailfkaaTotals.lean).
  GIVEN WITH THE SEED: the statements are not yours to turn. If you find one false, say at which input.
  Laid BY PROGRAM, IN A SANDBOX (cutbox-rows.mjs): the forced cells as the released guide's own fill.sh prints them over the translation 7316a222c3d79585… (all of the seat's roots in one cut). By AI agents, Wed Nov 11 2026. No macro, syntax, notation, axiom, sorry.
-/
import Derived.Test.YtgigdaijailfkaaChecked
import GoSem.Claim
import GoSem.ClaimJoined
import GoSem.ClaimMapViews
import Derived.JoinedTies
import Derived.KernelRfl
namespace Go.Proofs.Ytgigdaijailfkaa
/- THE CELL 'sum', in the pinned program and in every row, IS THE sha256 OF THE DUMP (.gsa) THAT YtgigdaijailfkaaProg.lean LOADS. Nothing in Lean hashes anything: it is a label: what it is worth is what the hold of that sum in a sandbox is worth. -/
noncomputable def Try.pinned : Pinned := { name := "ytgigdaijailfkaa", sum := "7316a222c3d79585bf82dbafd8efec4d7d82c2fa6d0850e7b454b2cabdbff300", checked := Try.checked }
namespace Rows
def none {H : Type} : Left H := { results := [], args := [] }

/-- 'laws.FnExactGetNum': WHATEVER THE INPUT: true; the input reads as it did. -/
def fnExactGetNumSpec : ChangeSpec := { name := "fnExactGetNum", fn := fun _ => fun
  | [d1, d2] => { results := [.lit (.bool true)], args := [d1, d2] }
  | _ => none }
def fnExactGetNumRow : OpenClaim := { program := "ytgigdaijailfkaa", sum := "7316a222c3d79585bf82dbafd8efec4d7d82c2fa6d0850e7b454b2cabdbff300", func := "loop.example/g00248/laws.FnExactGetNum", spec := "fnExactGetNum", apart := false }
def FnExactGetNumSaid : Prop := fnExactGetNumRow.holds Try.pinned (OpenSpec.ofChange fnExactGetNumSpec)

/-- ITS FALSE NEIGHBOUR: 'it returns false'. Refute it at one input. -/
def fnExactGetNumWrong : ChangeSpec := { name := "fnExactGetNum", fn := fun _ => fun
  | [d1, d2] => { results := [.lit (.bool false)], args := [d1, d2] }
  | _ => none }
def FnExactGetNumWrongFalsely : Prop := fnExactGetNumRow.holds Try.pinned (OpenSpec.ofChange fnExactGetNumWrong)

/-- 'laws.FnExactPutNum': WHATEVER THE INPUT: true; the input reads as it did. -/
def fnExactPutNumSpec : ChangeSpec := { name := "fnExactPutNum", fn := fun _ => fun
  | [d1, d2] => { results := [.lit (.bool true)], args := [d1, d2] }
  | _ => none }
def fnExactPutNumRow : OpenClaim := { program := "ytgigdaijailfkaa", sum := "7316a222c3d79585bf82dbafd8efec4d7d82c2fa6d0850e7b454b2cabdbff300", func := "loop.example/g00248/laws.FnExactPutNum", spec := "fnExactPutNum", apart := false }
def FnExactPutNumSaid : Prop := fnExactPutNumRow.holds Try.pinned (OpenSpec.ofChange fnExactPutNumSpec)

/-- ITS FALSE NEIGHBOUR: 'it returns false'. Refute it at one input. -/
def fnExactPutNumWrong : ChangeSpec := { name := "fnExactPutNum", fn := fun _ => fun
  | [d1, d2] => { results := [.lit (.bool false)], args := [d1, d2] }
  | _ => none }
def FnExactPutNumWrongFalsely : Prop := fnExactPutNumRow.holds Try.pinned (OpenSpec.ofChange fnExactPutNumWrong)

/-- 'laws.FnExactRootsOf': WHATEVER THE INPUT: true; the input reads as it did. -/
def fnExactRootsOfSpec : ChangeSpec := { name := "fnExactRootsOf", fn := fun _ => fun
  | [d] => { results := [.lit (.bool true)], args := [d] }
  | _ => none }
def fnExactRootsOfRow : OpenClaim := { program := "ytgigdaijailfkaa", sum := "7316a222c3d79585bf82dbafd8efec4d7d82c2fa6d0850e7b454b2cabdbff300", func := "loop.example/g00248/laws.FnExactRootsOf", spec := "fnExactRootsOf", apart := false }
def FnExactRootsOfSaid : Prop := fnExactRootsOfRow.holds Try.pinned (OpenSpec.ofChange fnExactRootsOfSpec)

/-- ITS FALSE NEIGHBOUR: 'it returns false'. Refute it at one input. -/
def fnExactRootsOfWrong : ChangeSpec := { name := "fnExactRootsOf", fn := fun _ => fun
  | [d] => { results := [.lit (.bool false)], args := [d] }
  | _ => none }
def FnExactRootsOfWrongFalsely : Prop := fnExactRootsOfRow.holds Try.pinned (OpenSpec.ofChange fnExactRootsOfWrong)

/-- 'laws.FnNoRooms': WHATEVER THE INPUT: true; the input reads as it did. -/
def fnNoRoomsSpec : ChangeSpec := { name := "fnNoRooms", fn := fun _ => fun
  | [d] => { results := [.lit (.bool true)], args := [d] }
  | _ => none }
def fnNoRoomsRow : OpenClaim := { program := "ytgigdaijailfkaa", sum := "7316a222c3d79585bf82dbafd8efec4d7d82c2fa6d0850e7b454b2cabdbff300", func := "loop.example/g00248/laws.FnNoRooms", spec := "fnNoRooms", recurses := true, apart := false }
def FnNoRoomsSaid : Prop := fnNoRoomsRow.holds Try.pinned (OpenSpec.ofChange fnNoRoomsSpec)

/-- ITS FALSE NEIGHBOUR: 'it returns false'. Refute it at one input. -/
def fnNoRoomsWrong : ChangeSpec := { name := "fnNoRooms", fn := fun _ => fun
  | [d] => { results := [.lit (.bool false)], args := [d] }
  | _ => none }
def FnNoRoomsWrongFalsely : Prop := fnNoRoomsRow.holds Try.pinned (OpenSpec.ofChange fnNoRoomsWrong)

/-- 'laws.FnNums': WHATEVER THE INPUT: true; the input reads as it did. -/
def fnNumsSpec : ChangeSpec := { name := "fnNums", fn := fun _ => fun
  | [d] => { results := [.lit (.bool true)], args := [d] }
  | _ => none }
def fnNumsRow : OpenClaim := { program := "ytgigdaijailfkaa", sum := "7316a222c3d79585bf82dbafd8efec4d7d82c2fa6d0850e7b454b2cabdbff300", func := "loop.example/g00248/laws.FnNums", spec := "fnNums", apart := false }
def FnNumsSaid : Prop := fnNumsRow.holds Try.pinned (OpenSpec.ofChange fnNumsSpec)

/-- ITS FALSE NEIGHBOUR: 'it returns false'. Refute it at one input. -/
def fnNumsWrong : ChangeSpec := { name := "fnNums", fn := fun _ => fun
  | [d] => { results := [.lit (.bool false)], args := [d] }
  | _ => none }
def FnNumsWrongFalsely : Prop := fnNumsRow.holds Try.pinned (OpenSpec.ofChange fnNumsWrong)

/-- 'laws.FnExactNoRooms': WHATEVER THE INPUT: true; the input reads as it did. -/
def fnExactNoRoomsSpec : ChangeSpec := { name := "fnExactNoRooms", fn := fun _ => fun
  | [d] => { results := [.lit (.bool true)], args := [d] }
  | _ => none }
def fnExactNoRoomsRow : OpenClaim := { program := "ytgigdaijailfkaa", sum := "7316a222c3d79585bf82dbafd8efec4d7d82c2fa6d0850e7b454b2cabdbff300", func := "loop.example/g00248/laws.FnExactNoRooms", spec := "fnExactNoRooms", recurses := true, loops := true, apart := false }
def FnExactNoRoomsSaid : Prop := fnExactNoRoomsRow.holds Try.pinned (OpenSpec.ofChange fnExactNoRoomsSpec)

/-- ITS FALSE NEIGHBOUR: 'it returns false'. Refute it at one input. -/
def fnExactNoRoomsWrong : ChangeSpec := { name := "fnExactNoRooms", fn := fun _ => fun
  | [d] => { results := [.lit (.bool false)], args := [d] }
  | _ => none }
def FnExactNoRoomsWrongFalsely : Prop := fnExactNoRoomsRow.holds Try.pinned (OpenSpec.ofChange fnExactNoRoomsWrong)

/-- 'laws.FnExactTimersOk': WHATEVER THE INPUT: true; the input reads as it did. -/
def fnExactTimersOkSpec : ChangeSpec := { name := "fnExactTimersOk", fn := fun _ => fun
  | [d] => { results := [.lit (.bool true)], args := [d] }
  | _ => none }
def fnExactTimersOkRow : OpenClaim := { program := "ytgigdaijailfkaa", sum := "7316a222c3d79585bf82dbafd8efec4d7d82c2fa6d0850e7b454b2cabdbff300", func := "loop.example/g00248/laws.FnExactTimersOk", spec := "fnExactTimersOk", recurses := true, loops := true, apart := false }
def FnExactTimersOkSaid : Prop := fnExactTimersOkRow.holds Try.pinned (OpenSpec.ofChange fnExactTimersOkSpec)

/-- ITS FALSE NEIGHBOUR: 'it returns false'. Refute it at one input. -/
def fnExactTimersOkWrong : ChangeSpec := { name := "fnExactTimersOk", fn := fun _ => fun
  | [d] => { results := [.lit (.bool false)], args := [d] }
  | _ => none }
def FnExactTimersOkWrongFalsely : Prop := fnExactTimersOkRow.holds Try.pinned (OpenSpec.ofChange fnExactTimersOkWrong)

/-- 'laws.FnDue': WHATEVER THE INPUT: true; the input reads as it did. -/
def fnDueSpec : ChangeSpec := { name := "fnDue", fn := fun _ => fun
  | [d] => { results := [.lit (.bool true)], args := [d] }
  | _ => none }
def fnDueRow : OpenClaim := { program := "ytgigdaijailfkaa", sum := "7316a222c3d79585bf82dbafd8efec4d7d82c2fa6d0850e7b454b2cabdbff300", func := "loop.example/g00248/laws.FnDue", spec := "fnDue", unfollowed := true, recurses := true, apart := false }
def FnDueSaid : Prop := fnDueRow.holds Try.pinned (OpenSpec.ofChange fnDueSpec)

/-- ITS FALSE NEIGHBOUR: 'it returns false'. Refute it at one input. -/
def fnDueWrong : ChangeSpec := { name := "fnDue", fn := fun _ => fun
  | [d] => { results := [.lit (.bool false)], args := [d] }
  | _ => none }
def FnDueWrongFalsely : Prop := fnDueRow.holds Try.pinned (OpenSpec.ofChange fnDueWrong)

/-- 'laws.FnExactDropTimers': WHATEVER THE INPUT: true; the input reads as it did. -/
def fnExactDropTimersSpec : ChangeSpec := { name := "fnExactDropTimers", fn := fun _ => fun
  | [d1, d2] => { results := [.lit (.bool true)], args := [d1, d2] }
  | _ => none }
def fnExactDropTimersRow : OpenClaim := { program := "ytgigdaijailfkaa", sum := "7316a222c3d79585bf82dbafd8efec4d7d82c2fa6d0850e7b454b2cabdbff300", func := "loop.example/g00248/laws.FnExactDropTimers", spec := "fnExactDropTimers", unfollowed := true, recurses := true, loops := true, apart := false }
def FnExactDropTimersSaid : Prop := fnExactDropTimersRow.holds Try.pinned (OpenSpec.ofChange fnExactDropTimersSpec)

/-- ITS FALSE NEIGHBOUR: 'it returns false'. Refute it at one input. -/
def fnExactDropTimersWrong : ChangeSpec := { name := "fnExactDropTimers", fn := fun _ => fun
  | [d1, d2] => { results := [.lit (.bool false)], args := [d1, d2] }
  | _ => none }
def FnExactDropTimersWrongFalsely : Prop := fnExactDropTimersRow.holds Try.pinned (OpenSpec.ofChange fnExactDropTimersWrong)

/-- 'laws.FnExactDueTimers': WHATEVER THE INPUT: true; the input reads as it did. -/
def fnExactDueTimersSpec : ChangeSpec := { name := "fnExactDueTimers", fn := fun _ => fun
  | [d1, d2] => { results := [.lit (.bool true)], args := [d1, d2] }
  | _ => none }
def fnExactDueTimersRow : OpenClaim := { program := "ytgigdaijailfkaa", sum := "7316a222c3d79585bf82dbafd8efec4d7d82c2fa6d0850e7b454b2cabdbff300", func := "loop.example/g00248/laws.FnExactDueTimers", spec := "fnExactDueTimers", unfollowed := true, recurses := true, loops := true, apart := false }
def FnExactDueTimersSaid : Prop := fnExactDueTimersRow.holds Try.pinned (OpenSpec.ofChange fnExactDueTimersSpec)

/-- ITS FALSE NEIGHBOUR: 'it returns false'. Refute it at one input. -/
def fnExactDueTimersWrong : ChangeSpec := { name := "fnExactDueTimers", fn := fun _ => fun
  | [d1, d2] => { results := [.lit (.bool false)], args := [d1, d2] }
  | _ => none }
def FnExactDueTimersWrongFalsely : Prop := fnExactDueTimersRow.holds Try.pinned (OpenSpec.ofChange fnExactDueTimersWrong)

/-- 'laws.FnDropped': WHATEVER THE INPUT: true; the input reads as it did. -/
def fnDroppedSpec : ChangeSpec := { name := "fnDropped", fn := fun _ => fun
  | [d] => { results := [.lit (.bool true)], args := [d] }
  | _ => none }
def fnDroppedRow : OpenClaim := { program := "ytgigdaijailfkaa", sum := "7316a222c3d79585bf82dbafd8efec4d7d82c2fa6d0850e7b454b2cabdbff300", func := "loop.example/g00248/laws.FnDropped", spec := "fnDropped", unfollowed := true, recurses := true, apart := false }
def FnDroppedSaid : Prop := fnDroppedRow.holds Try.pinned (OpenSpec.ofChange fnDroppedSpec)

/-- ITS FALSE NEIGHBOUR: 'it returns false'. Refute it at one input. -/
def fnDroppedWrong : ChangeSpec := { name := "fnDropped", fn := fun _ => fun
  | [d] => { results := [.lit (.bool false)], args := [d] }
  | _ => none }
def FnDroppedWrongFalsely : Prop := fnDroppedRow.holds Try.pinned (OpenSpec.ofChange fnDroppedWrong)

/-- 'laws.FnTimers': WHATEVER THE INPUT: true; the input reads as it did. -/
def fnTimersSpec : ChangeSpec := { name := "fnTimers", fn := fun _ => fun
  | [d] => { results := [.lit (.bool true)], args := [d] }
  | _ => none }
def fnTimersRow : OpenClaim := { program := "ytgigdaijailfkaa", sum := "7316a222c3d79585bf82dbafd8efec4d7d82c2fa6d0850e7b454b2cabdbff300", func := "loop.example/g00248/laws.FnTimers", spec := "fnTimers", unfollowed := true, recurses := true, apart := false }
def FnTimersSaid : Prop := fnTimersRow.holds Try.pinned (OpenSpec.ofChange fnTimersSpec)

/-- ITS FALSE NEIGHBOUR: 'it returns false'. Refute it at one input. -/
def fnTimersWrong : ChangeSpec := { name := "fnTimers", fn := fun _ => fun
  | [d] => { results := [.lit (.bool false)], args := [d] }
  | _ => none }
def FnTimersWrongFalsely : Prop := fnTimersRow.holds Try.pinned (OpenSpec.ofChange fnTimersWrong)

/- THE SECOND FORM. 'bulk': how many values and letters a reading holds, each counted each time it is reached (what is shared counts as often as it is met; a slice's spare places count too). A statement '..UptoSaid' is the law's where the arguments, and the package variables that the reading takes, are together of bulk at most 1048576: NARROWER than '..Said'. Prove '..Said' where nothing that the law and all that it calls make is longer than what came in: it says more and counts as full. Else prove '..UptoSaid'. A law counts once. -/
mutual
def uptoBulk {H : Type} : DataW H → Nat
  | .lit (.string bytes) => bytes.length + 1
  | .lit _ => 1
  | .nil => 1
  | .ptr d => uptoBulk d + 1
  | .slice elems spare => uptoBulkAll elems + uptoBulkAll spare + 1
  | .agg parts => uptoBulkAll parts + 1
  | .iface _ d => uptoBulk d + 1
  | .map entries => uptoBulkEntries entries + 1
  | .held _ => 1
def uptoBulkAll {H : Type} : List (DataW H) → Nat
  | [] => 0
  | d :: r => uptoBulk d + uptoBulkAll r
def uptoBulkEntries {H : Type} : List (Lit × DataW H) → Nat
  | [] => 0
  | x :: r => uptoBulkEntry x + uptoBulkEntries r
def uptoBulkEntry {H : Type} : Lit × DataW H → Nat
  | (.string bytes, d) => bytes.length + uptoBulk d + 1
  | (_, d) => uptoBulk d + 1
 end
def uptoSmall : (H : Type) → List (DataW H) → Bool := fun _ ds => decide (uptoBulkAll ds ≤ 1048576)
def OpenSpec.upto (s : _root_.Go.ChangeSpec) : _root_.Go.OpenSpec := { _root_.Go.OpenSpec.ofChange s with cond := some uptoSmall }

/-- 'laws.FnExactGetNum', WHERE WHAT IT READS IS OF BULK AT MOST 1048576: true; the input reads as it did. -/
def fnExactGetNumUptoRow : OpenClaim := { program := "ytgigdaijailfkaa", sum := "7316a222c3d79585bf82dbafd8efec4d7d82c2fa6d0850e7b454b2cabdbff300", func := "loop.example/g00248/laws.FnExactGetNum", spec := "fnExactGetNum", apart := false, narrowed := true }
def FnExactGetNumUptoSaid : Prop := fnExactGetNumUptoRow.holds Try.pinned (OpenSpec.upto fnExactGetNumSpec)

/-- 'laws.FnExactPutNum', WHERE WHAT IT READS IS OF BULK AT MOST 1048576: true; the input reads as it did. -/
def fnExactPutNumUptoRow : OpenClaim := { program := "ytgigdaijailfkaa", sum := "7316a222c3d79585bf82dbafd8efec4d7d82c2fa6d0850e7b454b2cabdbff300", func := "loop.example/g00248/laws.FnExactPutNum", spec := "fnExactPutNum", apart := false, narrowed := true }
def FnExactPutNumUptoSaid : Prop := fnExactPutNumUptoRow.holds Try.pinned (OpenSpec.upto fnExactPutNumSpec)

/-- 'laws.FnExactRootsOf', WHERE WHAT IT READS IS OF BULK AT MOST 1048576: true; the input reads as it did. -/
def fnExactRootsOfUptoRow : OpenClaim := { program := "ytgigdaijailfkaa", sum := "7316a222c3d79585bf82dbafd8efec4d7d82c2fa6d0850e7b454b2cabdbff300", func := "loop.example/g00248/laws.FnExactRootsOf", spec := "fnExactRootsOf", apart := false, narrowed := true }
def FnExactRootsOfUptoSaid : Prop := fnExactRootsOfUptoRow.holds Try.pinned (OpenSpec.upto fnExactRootsOfSpec)

/-- 'laws.FnNoRooms', WHERE WHAT IT READS IS OF BULK AT MOST 1048576: true; the input reads as it did. -/
def fnNoRoomsUptoRow : OpenClaim := { program := "ytgigdaijailfkaa", sum := "7316a222c3d79585bf82dbafd8efec4d7d82c2fa6d0850e7b454b2cabdbff300", func := "loop.example/g00248/laws.FnNoRooms", spec := "fnNoRooms", recurses := true, apart := false, narrowed := true }
def FnNoRoomsUptoSaid : Prop := fnNoRoomsUptoRow.holds Try.pinned (OpenSpec.upto fnNoRoomsSpec)

/-- 'laws.FnNums', WHERE WHAT IT READS IS OF BULK AT MOST 1048576: true; the input reads as it did. -/
def fnNumsUptoRow : OpenClaim := { program := "ytgigdaijailfkaa", sum := "7316a222c3d79585bf82dbafd8efec4d7d82c2fa6d0850e7b454b2cabdbff300", func := "loop.example/g00248/laws.FnNums", spec := "fnNums", apart := false, narrowed := true }
def FnNumsUptoSaid : Prop := fnNumsUptoRow.holds Try.pinned (OpenSpec.upto fnNumsSpec)

/-- 'laws.FnExactNoRooms', WHERE WHAT IT READS IS OF BULK AT MOST 1048576: true; the input reads as it did. -/
def fnExactNoRoomsUptoRow : OpenClaim := { program := "ytgigdaijailfkaa", sum := "7316a222c3d79585bf82dbafd8efec4d7d82c2fa6d0850e7b454b2cabdbff300", func := "loop.example/g00248/laws.FnExactNoRooms", spec := "fnExactNoRooms", recurses := true, loops := true, apart := false, narrowed := true }
def FnExactNoRoomsUptoSaid : Prop := fnExactNoRoomsUptoRow.holds Try.pinned (OpenSpec.upto fnExactNoRoomsSpec)

/-- 'laws.FnExactTimersOk', WHERE WHAT IT READS IS OF BULK AT MOST 1048576: true; the input reads as it did. -/
def fnExactTimersOkUptoRow : OpenClaim := { program := "ytgigdaijailfkaa", sum := "7316a222c3d79585bf82dbafd8efec4d7d82c2fa6d0850e7b454b2cabdbff300", func := "loop.example/g00248/laws.FnExactTimersOk", spec := "fnExactTimersOk", recurses := true, loops := true, apart := false, narrowed := true }
def FnExactTimersOkUptoSaid : Prop := fnExactTimersOkUptoRow.holds Try.pinned (OpenSpec.upto fnExactTimersOkSpec)

/-- 'laws.FnDue', WHERE WHAT IT READS IS OF BULK AT MOST 1048576: true; the input reads as it did. -/
def fnDueUptoRow : OpenClaim := { program := "ytgigdaijailfkaa", sum := "7316a222c3d79585bf82dbafd8efec4d7d82c2fa6d0850e7b454b2cabdbff300", func := "loop.example/g00248/laws.FnDue", spec := "fnDue", unfollowed := true, recurses := true, apart := false, narrowed := true }
def FnDueUptoSaid : Prop := fnDueUptoRow.holds Try.pinned (OpenSpec.upto fnDueSpec)

/-- 'laws.FnExactDropTimers', WHERE WHAT IT READS IS OF BULK AT MOST 1048576: true; the input reads as it did. -/
def fnExactDropTimersUptoRow : OpenClaim := { program := "ytgigdaijailfkaa", sum := "7316a222c3d79585bf82dbafd8efec4d7d82c2fa6d0850e7b454b2cabdbff300", func := "loop.example/g00248/laws.FnExactDropTimers", spec := "fnExactDropTimers", unfollowed := true, recurses := true, loops := true, apart := false, narrowed := true }
def FnExactDropTimersUptoSaid : Prop := fnExactDropTimersUptoRow.holds Try.pinned (OpenSpec.upto fnExactDropTimersSpec)

/-- 'laws.FnExactDueTimers', WHERE WHAT IT READS IS OF BULK AT MOST 1048576: true; the input reads as it did. -/
def fnExactDueTimersUptoRow : OpenClaim := { program := "ytgigdaijailfkaa", sum := "7316a222c3d79585bf82dbafd8efec4d7d82c2fa6d0850e7b454b2cabdbff300", func := "loop.example/g00248/laws.FnExactDueTimers", spec := "fnExactDueTimers", unfollowed := true, recurses := true, loops := true, apart := false, narrowed := true }
def FnExactDueTimersUptoSaid : Prop := fnExactDueTimersUptoRow.holds Try.pinned (OpenSpec.upto fnExactDueTimersSpec)

/-- 'laws.FnDropped', WHERE WHAT IT READS IS OF BULK AT MOST 1048576: true; the input reads as it did. -/
def fnDroppedUptoRow : OpenClaim := { program := "ytgigdaijailfkaa", sum := "7316a222c3d79585bf82dbafd8efec4d7d82c2fa6d0850e7b454b2cabdbff300", func := "loop.example/g00248/laws.FnDropped", spec := "fnDropped", unfollowed := true, recurses := true, apart := false, narrowed := true }
def FnDroppedUptoSaid : Prop := fnDroppedUptoRow.holds Try.pinned (OpenSpec.upto fnDroppedSpec)

/-- 'laws.FnTimers', WHERE WHAT IT READS IS OF BULK AT MOST 1048576: true; the input reads as it did. -/
def fnTimersUptoRow : OpenClaim := { program := "ytgigdaijailfkaa", sum := "7316a222c3d79585bf82dbafd8efec4d7d82c2fa6d0850e7b454b2cabdbff300", func := "loop.example/g00248/laws.FnTimers", spec := "fnTimers", unfollowed := true, recurses := true, apart := false, narrowed := true }
def FnTimersUptoSaid : Prop := fnTimersUptoRow.holds Try.pinned (OpenSpec.upto fnTimersSpec)

end Rows
end Go.Proofs.Ytgigdaijailfkaa
