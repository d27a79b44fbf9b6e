/-
  Lam and an alef as one: the package forms and the document's answer.
  Conditions: none but those that each sentence tells.
-/
import Derived.Test.YtcgaphmndnmfdaaGreatC
import Derived.Test.YtcgaphmndnmfdaaGreatPmT
namespace Go.Proofs.YtcgaphmndnmfdaaGreat
open Go.Pm
open Nat renaming reduceEqDiff → nE, reduceAdd → nA, reduceMul → nM, reduceLeDiff → nD, reduceLT → nL
open Int renaming reduceLE → iL, reduceLT → iT, reduceEq → iE, reduceToNat → iN, cast_ofNat_Int → iC
set_option maxRecDepth 100000
set_option linter.unusedSimpArgs false
set_option linter.unusedVariables false

abbrev I3 := Int × Int × Int
def i3 (p : I3) : List PV := [.int .i64 p.1, .int .i64 p.2.1, .int .i64 p.2.2]
theorem i3_len (p : I3) : (i3 p).length = 3 := rfl
theorem old_i3 (l : List I3) : olds (l.flatMap i3) = l.flatMap i3 := olds_flat _ _ (fun g => rfl) l
def ligs : List I3 := [(1570, 65269, 65270), (1571, 65271, 65272), (1573, 65273, 65274), (1575, 65275, 65276)]
theorem Ligatures (h : Heap) {K : PV → Heap → Prop} (k : K (.list true 3 ligs.length (ligs.flatMap i3)) h) : CanP Tryz.prog 81 [] h K := by
  refine e81 rfl ?_
  try simp only [c81, r81_0, r81_1, pm, pmW, pmB, ft, ↓reduceIte, reduceCtorEq, nE, nA, nM, nD, nL, iL, iT, iE, iN, iC]
  exact finK_le (Heap.le_refl _) k
/-- Lam and an alef as one; whether there is one. -/
def ligP (c form : Int) : Int × Bool := match ligs.find? (fun x => decide (x.1 = c)) with
  | none => (0, false)
  | some x => if form = 1 then (x.2.1, true) else if form = 2 then (x.2.2, true) else (0, false)
end Go.Proofs.YtcgaphmndnmfdaaGreat
