/- The reference's copy of a term: all its rows are its own.
Conditions: none. -/
import Derived.Test.YtnmjhhipbfngkaaCp
import Derived.Test.YtnmjhhipbfngkaaEq1
import Derived.Test.YtnmjhhipbfngkaaEq2
import Derived.Test.YtnmjhhipbfngkaaEq3
import Derived.Test.YtnmjhhipbfngkaaEq4
set_option linter.unusedSimpArgs false
set_option linter.unusedVariables false
namespace Go.Proofs.Ytnmjhhipbfngkaa.Am
open Go Go.RowKit

end Go.Proofs.Ytnmjhhipbfngkaa.Am
