/-
  Go's library: slices.SortStableFunc of a live row of whole numbers.
  Conditions: what compares tells by a key which of two is the lesser.
-/
import Derived.Test.YtcgaphmndnmfdaaGreatC
import Derived.Test.YtcgaphmndnmfdaaGreatPmT

namespace Go.Proofs.YtcgaphmndnmfdaaGreat
open Go.Pm
open Nat renaming reduceEqDiff → nE, reduceAdd → nA, reduceMul → nM, reduceLeDiff → nD, reduceLT → nL
open Int renaming reduceLE → iL, reduceLT → iT, reduceEq → iE, reduceToNat → iN, cast_ofNat_Int → iC
set_option maxRecDepth 100000
set_option linter.unusedSimpArgs false
set_option linter.unusedVariables false
end Go.Proofs.YtcgaphmndnmfdaaGreat
