/-
  Whether two rows of whole numbers are alike (slices.Equal).
  Conditions: a row of at most a thousand million.
-/
import Derived.Test.YtcgaphmndnmfdaaC
import Derived.Test.YtcgaphmndnmfdaaPmT
namespace Go.Proofs.Ytcgaphmndnmfdaa
open Go.Pm
set_option maxRecDepth 100000
set_option linter.unusedSimpArgs false
set_option linter.unusedVariables false

end Go.Proofs.Ytcgaphmndnmfdaa
