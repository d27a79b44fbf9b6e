/-
  What a row of ranges tells of a code, as the document says.
  Conditions: none but those that each sentence tells.
-/
import Derived.Test.YtcgaphmndnmfdaaRng0
namespace Go.Proofs.Ytcgaphmndnmfdaa
open Go.Pm
set_option maxRecDepth 100000
set_option linter.unusedSimpArgs false
set_option linter.unusedVariables false

end Go.Proofs.Ytcgaphmndnmfdaa
