/-
  A row of whole numbers from its end on (slices.Backward): what it hands to a loop's rounds.
  Conditions: none but those that each sentence tells.
-/
import Derived.Test.YtcgaphmndnmfdaaGreatPmW
import Derived.Test.YtcgaphmndnmfdaaGreatC
import Derived.RangeFuncBox
import Derived.WalkKit
import Derived.OwnWalkIn
import Derived.TacticsInMore
import Derived.LoopNIn
import Derived.LoopIn
namespace Go.Proofs.YtcgaphmndnmfdaaGreat
open Go.Pm Go.RowKit
open Nat renaming reduceEqDiff → nE, reduceAdd → nA, reduceMul → nM, reduceLeDiff → nD, reduceLT → nL
open Int renaming reduceLE → iL, reduceLT → iT, reduceEq → iE, reduceToNat → iN, cast_ofNat_Int → iC
set_option linter.unusedSimpArgs false
set_option linter.unusedVariables false
attribute [local go_sem] Oper.semAt_some
end Go.Proofs.YtcgaphmndnmfdaaGreat
