/-
  The law LintMends (P49.2).
-/
import Derived.Test.YtcgaphmndnmfdaaGreatLin4R
namespace Go.Proofs.YtcgaphmndnmfdaaGreat
open Go.Pm
open Nat renaming reduceEqDiff → nE, reduceAdd → nA, reduceMul → nM, reduceLeDiff → nD, reduceLT → nL
open Int renaming reduceLE → iL, reduceLT → iT, reduceEq → iE, reduceToNat → iN, cast_ofNat_Int → iC
set_option maxRecDepth 100000
set_option linter.unusedSimpArgs false
set_option linter.unusedVariables false

theorem law_LintMends (X : List Int) (hl : X.length ≤ 9223372036854775806) (h : Heap) {K : PV → Heap → Prop} (k : K (.bool true) h) :
    CanP Tryz.prog 4 [.list false 1 X.length (X.map (.int .i64))] h K := by
  refine e4 rfl ?_
  try simp only [c4, r4_0, r4_1, r4_2, r4_3, pm, pmW, pmB, ft, ↓reduceIte, reduceCtorEq, nE, nA, nM, nD, nL, iL, iT, iE, iN, iC]
  by_cases h1 : 60 < X.length
  · have h1' : (60 : Int) < (X.length : Int) := by omega
    try simp only [h1', pm, pmW, pmB, ft, ↓reduceIte, reduceCtorEq, nE, nA, nM, nD, nL, iL, iT, iE, iN, iC]
    refine awake _ ?_
    try simp only [pm, pmW, pmB, ft, ↓reduceIte, reduceCtorEq, nE, nA, nM, nD, nL, iL, iT, iE, iN, iC]
    exact finK_rf k
  have h1' : ¬ (60 : Int) < (X.length : Int) := by omega
  have hm := mend_size X (by omega)
  try simp only [h1', pm, pmW, pmB, ft, ↓reduceIte, reduceCtorEq, nE, nA, nM, nD, nL, iL, iT, iE, iN, iC]
  refine New _ fun p hp => ?_
  try simp only [pm, pmW, pmB, ft, ↓reduceIte, reduceCtorEq, nE, nA, nM, nD, nL, iL, iT, iE, iN, iC]
  refine cccNew _ fun c hc => ?_
  try simp only [pm, pmW, pmB, ft, ↓reduceIte, reduceCtorEq, nE, nA, nM, nD, nL, iL, iT, iE, iN, iC]
  refine lintMended p hp c hc _ X (by omega) _ ?_
  try simp only [pm, pmW, pmB, ft, ↓reduceIte, reduceCtorEq, nE, nA, nM, nD, nL, iL, iT, iE, iN, iC]
  refine MendedR _ X (by omega) _ ?_
  try simp only [pm, pmW, pmB, ft, ↓reduceIte, reduceCtorEq, nE, nA, nM, nD, nL, iL, iT, iE, iN, iC]
  refine EqualI _ _ (mendT X) (mendT X) (by omega) _ ?_
  try simp only [pm, pmW, pmB, ft, ↓reduceIte, reduceCtorEq, nE, nA, nM, nD, nL, iL, iT, iE, iN, iC]
  refine awake _ ?_
  try simp only [pm, pmW, pmB, ft, ↓reduceIte, reduceCtorEq, nE, nA, nM, nD, nL, iL, iT, iE, iN, iC]
  exact finK_rf k
def kinds_LintMends : List AKind := [.row [some .i64] 8]
theorem all_LintMends (pvs : List PV) (h : IsArgs kinds_LintMends pvs) : CanP Tryz.prog 4 pvs Heap.nil (fun v _ => v = .bool true) := by
  obtain ⟨p, r, rfl, ⟨rows, hr, hz, hl, rfl⟩, rfl⟩ := h
  obtain ⟨o, rfl, ho⟩ := rows_of (fun x => [.int .i64 x]) _ fits_int49 hr
  rw [flat_ints49]
  simp only [List.length_map] at hl hz ⊢
  exact law_LintMends o (by omega) _ rfl
end Go.Proofs.YtcgaphmndnmfdaaGreat
