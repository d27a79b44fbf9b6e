/-
  Lam and an alef as one: the package forms and the document's answer.
  Conditions: none but those that each sentence tells.
-/
import Derived.Test.YtcgaphmndnmfdaaC
import Derived.Test.YtcgaphmndnmfdaaPmT
namespace Go.Proofs.Ytcgaphmndnmfdaa
open Go.Pm
set_option maxRecDepth 100000
set_option linter.unusedSimpArgs false
set_option linter.unusedVariables false

abbrev I3 := Int × Int × Int
def i3 (p : I3) : List PV := [.int .i64 p.1, .int .i64 p.2.1, .int .i64 p.2.2]
theorem i3_len (p : I3) : (i3 p).length = 3 := rfl
theorem old_i3 (l : List I3) : olds (l.flatMap i3) = l.flatMap i3 := olds_flat _ _ (fun g => rfl) l
def ligs : List I3 := [(1570, 65269, 65270), (1571, 65271, 65272), (1573, 65273, 65274), (1575, 65275, 65276)]
theorem Ligatures (h : Heap) {K : PV → Heap → Prop} (k : K (.list true 3 ligs.length (ligs.flatMap i3)) h) : CanP Try.prog 86 [] h K := by
  refine e86 rfl ?_
  try simp only [c86, r86_0, r86_1, pmZ, Int.cast_ofNat_Int, beq_self_eq_true, Heap.kill_kset, pmC, pmE, pmS, pmV, pmK, pmQ, pmL, pmX, pmF, pmO, pmA, pmR, pmW, pmB, Option.isSome_some, ft, olds_ints, olds_bools, ↓reduceIte, Nat.reduceEqDiff, reduceCtorEq, Nat.reduceAdd, Nat.reduceMul, Nat.reduceLeDiff, Nat.reduceLT, Int.reduceLE, Int.reduceLT, Int.reduceEq, Int.reduceToNat, ne_eq]
  exact finK_le (Heap.le_refl _) k
/-- Lam and an alef as one; whether there is one. -/
def ligP (c form : Int) : Int × Bool := match ligs.find? (fun x => decide (x.1 = c)) with
  | none => (0, false)
  | some x => if form = 1 then (x.2.1, true) else if form = 2 then (x.2.2, true) else (0, false)
end Go.Proofs.Ytcgaphmndnmfdaa
