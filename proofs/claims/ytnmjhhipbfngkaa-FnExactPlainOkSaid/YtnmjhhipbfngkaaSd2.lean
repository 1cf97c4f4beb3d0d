/- How many ended for want of room: the program's count.
Conditions: none. -/
import Derived.Test.YtnmjhhipbfngkaaSd
set_option linter.unusedSimpArgs false
set_option linter.unusedVariables false
namespace Go.Proofs.Ytnmjhhipbfngkaa.Am
open Go Go.RowKit

end Go.Proofs.Ytnmjhhipbfngkaa.Am
