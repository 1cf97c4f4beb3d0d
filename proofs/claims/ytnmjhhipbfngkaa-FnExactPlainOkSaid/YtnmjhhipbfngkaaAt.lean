/- Atoms, and terms held against an atom.
Conditions: none. -/
import Derived.Test.YtnmjhhipbfngkaaTm3
set_option linter.unusedSimpArgs false
set_option linter.unusedVariables false
namespace Go.Proofs.Ytnmjhhipbfngkaa.Am
open Go Go.RowKit

/-- Is it that atom? -/
def isA (k n : Int) (s : ByteArray) (m : Nat) (w : ByteArray) : Bool := !(k != 2) && !(n != 0) && (s.toList == w.toList) && !(((m : Nat) : Int) != ((0 : Nat) : Int))

end Go.Proofs.Ytnmjhhipbfngkaa.Am
