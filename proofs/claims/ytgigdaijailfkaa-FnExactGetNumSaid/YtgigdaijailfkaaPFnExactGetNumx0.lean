-- PRINTED BY print.sh 35421559b90ae4d0a3588c463048766b98c2df88dd9212a6774a882060cdf62d: not written by this session
import Derived.Test.YtgigdaijailfkaaProg
import Derived.Below
import Derived.Deep.Draws
import Derived.Deep.AppendLies
import Derived.Maps.AppendAt
import Derived.OwnWalk
import Derived.Laws.BytesArg
import Derived.Laws.MakeOwn
import Derived.Laws.OwnMore
import Derived.Deep.OwnRows
import Derived.Tactics
import Derived.Lib.ConvBytes
import Derived.Laws.Slices
import Derived.WalkKit
import Derived.KernelRfl
import Derived.RowKit3
import Derived.Deep.LoopGhost
import Derived.Deep.QuietTactic
import Derived.BigQuiet
import Derived.WideLaws
import Derived.Deep.DeepCutAuto
import Derived.Deep.CutBlock
import Derived.Deep.RegionHeld3
import Derived.Laws.Rows
import Derived.Lib.AppendStr
import Derived.ArgAppend
import Derived.Laws.IdiomCopy
import Derived.OrdersHeld
import Derived.Laws.BitsLemmas
import Derived.RowKit
import Derived.Test.YtgigdaijailfkaaWWords
import Derived.Test.YtgigdaijailfkaaWLast
import Derived.Test.YtgigdaijailfkaaWTab
import Derived.Test.YtgigdaijailfkaaWFour
import Derived.Test.YtgigdaijailfkaaWQPut
import Derived.Test.YtgigdaijailfkaaWApart
import Derived.Test.YtgigdaijailfkaaWArr
import Derived.Test.YtgigdaijailfkaaWZeros
import Derived.Test.YtgigdaijailfkaaWFoot
import Derived.Test.YtgigdaijailfkaaWKept
import Derived.Test.YtgigdaijailfkaaWShare
import Derived.Test.YtgigdaijailfkaaWN
import Derived.Test.YtgigdaijailfkaaWFootNe
import Derived.Test.YtgigdaijailfkaaWAt
import Derived.Test.YtgigdaijailfkaaWEqStruct
import Derived.Test.YtgigdaijailfkaaWRepsOne
import Derived.Test.YtgigdaijailfkaaWInv
import Derived.Test.YtgigdaijailfkaaWInvWords
import Derived.Test.YtgigdaijailfkaaWGuard
import Derived.Test.YtgigdaijailfkaaWNEv
import Derived.Test.YtgigdaijailfkaaWMore
namespace Go.Proofs.Ytgigdaijailfkaa.PFnExactGetNum
open Go.RowKit Go.Proofs.YtgigdaijailfkaaW.PrintWords Go.Proofs.YtgigdaijailfkaaW.PrintLast Go.Proofs.YtgigdaijailfkaaW.PrintMore
attribute [local go_sem] max2_int min2_int max_two min_two max_three min_three max_four min_four   -- for this text's walks alone
set_option linter.unusedVariables false
set_option linter.unusedSimpArgs false



def errW : Option Int → Value
  | none => .nilIface
  | some c => .iface 0 (.int .i64 c)
theorem errW_none : errW none = .nilIface := rfl
theorem errW_some (c : Int) : errW (some c) = .iface 0 (.int .i64 c) := rfl

theorem info5 : (Try.prog.info? 5).map (fun i => (i.zero, i.size, i.bytes)) = some (some (.int .u8 0), 1, 1) := by kernel_rfl
-- the values' own types

end Go.Proofs.Ytgigdaijailfkaa.PFnExactGetNum
