/-
  What the functions of the package span, and of its reference, come back with.
  Conditions: none but those that each sentence tells.
-/
import Derived.Test.YtcgaphmndnmfdaaGreatC
import Derived.Test.YtcgaphmndnmfdaaGreatPmT
namespace Go.Proofs.YtcgaphmndnmfdaaGreat
open Go.Pm
open Nat renaming reduceEqDiff → nE, reduceAdd → nA, reduceMul → nM, reduceLeDiff → nD, reduceLT → nL
open Int renaming reduceLE → iL, reduceLT → iT, reduceEq → iE, reduceToNat → iN, cast_ofNat_Int → iC
set_option maxRecDepth 100000
set_option linter.unusedSimpArgs false
set_option linter.unusedVariables false

def sp (p : Int × Int) : List PV := [.int .i64 p.1, .int .i64 p.2]
theorem sp_len (p : Int × Int) : (sp p).length = 2 := rfl
def okSp (p : Int × Int) : Prop := 0 ≤ p.1 ∧ p.1 < p.2
theorem old_sp (l : List (Int × Int)) : olds (l.flatMap sp) = l.flatMap sp := by
  induction l with
  | nil => rfl
  | cons p l ih => rw [List.flatMap_cons, olds_eq, List.map_append, ← olds_eq, ← olds_eq, ih]; rfl

/-- Are these the parts from `e` on to `n`? -/
def partsB : Int → List (Int × Int) → Int → Bool
  | e, [], n => decide (e = n)
  | e, p :: l, n => decide (p.1 = e) && (decide (0 ≤ p.1 ∧ p.1 < p.2) && partsB p.2 l n)

/-- Do places rise within a span? -/
def risesB (hi : Int) : Int → List Int → Bool
  | _, [] => true
  | e, n :: l => !(decide (n ≤ e)) && (!(decide (hi ≤ n)) && risesB hi n l)
/-- The parts of a span that is cut. -/
def cuts (hi : Int) : Int → List Int → List (Int × Int)
  | lo, [] => [(lo, hi)]
  | lo, n :: l => (lo, n) :: cuts hi n l
def cutP (lo hi : Int) (l : List Int) : PV :=
  if 0 ≤ lo ∧ lo < hi then
    if risesB hi lo l then .tup [.list true 2 (l.length + 1) ((cuts hi lo l).flatMap sp), .int .i64 0] else .tup [.list true 2 0 [], .int .i64 10]
  else .tup [.list true 2 0 [], .int .i64 1]
def sizeZ (lo hi : Int) : Int := if 0 ≤ lo ∧ lo < hi then hi - lo else 0
theorem fits_sp (r : List PV) (h : Fits [some .i64, some .i64] r) : ∃ x : Int × Int, r = sp x ∧ (x.1 ≤ 9223372036854775807 ∧ x.2 ≤ 9223372036854775807 ∧ -9223372036854775808 ≤ x.1 ∧ -9223372036854775808 ≤ x.2) := by
  obtain ⟨a, r, rfl, ha, b, r2, rfl, hb, rfl⟩ := h
  have := wf64 ha; have := wf64 hb
  exact ⟨(a, b), rfl, by omega⟩
def kinds_SpanParts : List AKind := [.row [some .i64, some .i64] 16, .one (some .i64)]
end Go.Proofs.YtcgaphmndnmfdaaGreat
