/-
  Go's library: slices.SortStableFunc of a live row of whole numbers.
  Conditions: what compares tells by a key which of two is the lesser.
-/
import Derived.Test.YtcgaphmndnmfdaaC
import Derived.Test.YtcgaphmndnmfdaaPmT

namespace Go.Proofs.Ytcgaphmndnmfdaa
open Go.Pm
set_option maxRecDepth 100000
set_option linter.unusedSimpArgs false
set_option linter.unusedVariables false
end Go.Proofs.Ytcgaphmndnmfdaa
