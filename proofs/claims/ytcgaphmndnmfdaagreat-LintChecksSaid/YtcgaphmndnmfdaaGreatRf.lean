/-
  Functions that hold a range over a function, told in short. Printed by this project's own program.
  Conditions: none.
-/
import Derived.Test.YtcgaphmndnmfdaaGreatPmW
import Derived.Test.YtcgaphmndnmfdaaGreatC
namespace Go.Proofs.YtcgaphmndnmfdaaGreat
open Go.Pm
set_option maxRecDepth 100000
set_option linter.unusedVariables false
end Go.Proofs.YtcgaphmndnmfdaaGreat
