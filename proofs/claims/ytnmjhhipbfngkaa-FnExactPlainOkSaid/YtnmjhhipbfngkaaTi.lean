/- Rows of timers: counted, the same read twice, copies (a timer lies as what is said does: two numbers and a term).
Conditions: none. -/
import Derived.Test.YtnmjhhipbfngkaaSd0
import Derived.Test.YtnmjhhipbfngkaaEnT
import Derived.Test.YtnmjhhipbfngkaaEq1
import Derived.Test.YtnmjhhipbfngkaaEq2
import Derived.Test.YtnmjhhipbfngkaaEq3
import Derived.Test.YtnmjhhipbfngkaaEq4
set_option linter.unusedSimpArgs false
set_option linter.unusedVariables false
namespace Go.Proofs.Ytnmjhhipbfngkaa.Am
open Go Go.RowKit

end Go.Proofs.Ytnmjhhipbfngkaa.Am
