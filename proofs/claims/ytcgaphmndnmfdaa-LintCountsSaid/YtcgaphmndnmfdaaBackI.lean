/-
  A row of whole numbers from its end on (slices.Backward): what it hands to a loop's rounds.
  Conditions: none but those that each sentence tells.
-/
import Derived.Test.YtcgaphmndnmfdaaPmW
import Derived.Test.YtcgaphmndnmfdaaC
import Derived.RangeFuncBox
import Derived.WalkKit
import Derived.OwnWalkIn
import Derived.TacticsInMore
import Derived.LoopNIn
import Derived.LoopIn
namespace Go.Proofs.Ytcgaphmndnmfdaa
open Go.Pm Go.RowKit
set_option linter.unusedSimpArgs false
set_option linter.unusedVariables false
attribute [local go_sem] Oper.semAt_some
end Go.Proofs.Ytcgaphmndnmfdaa
