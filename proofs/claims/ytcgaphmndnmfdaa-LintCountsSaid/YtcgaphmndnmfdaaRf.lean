/-
  Functions that hold a range over a function, told in short. Printed by this project's own program.
  Conditions: none.
-/
import Derived.Test.YtcgaphmndnmfdaaPmW
import Derived.Test.YtcgaphmndnmfdaaC
namespace Go.Proofs.Ytcgaphmndnmfdaa
open Go.Pm
set_option maxRecDepth 100000
set_option linter.unusedVariables false
end Go.Proofs.Ytcgaphmndnmfdaa
