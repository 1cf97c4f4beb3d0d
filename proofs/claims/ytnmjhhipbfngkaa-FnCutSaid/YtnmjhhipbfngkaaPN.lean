/- PutNum: the program's bytes are the reference's.
Conditions: none. -/
import Derived.Test.YtnmjhhipbfngkaaPN0
set_option linter.unusedSimpArgs false
set_option linter.unusedVariables false
namespace Go.Proofs.Ytnmjhhipbfngkaa.Am
open Go Go.RowKit

end Go.Proofs.Ytnmjhhipbfngkaa.Am
