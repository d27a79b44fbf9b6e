/-
  The law LintDone (P49.3).
-/
import Derived.Test.YtcgaphmndnmfdaaGreatLin4
import Derived.Test.YtcgaphmndnmfdaaGreatLinP
namespace Go.Proofs.YtcgaphmndnmfdaaGreat
open Go.Pm
open Nat renaming reduceEqDiff → nE, reduceAdd → nA, reduceMul → nM, reduceLeDiff → nD, reduceLT → nL
open Int renaming reduceLE → iL, reduceLT → iT, reduceEq → iE, reduceToNat → iN, cast_ofNat_Int → iC
set_option maxRecDepth 100000
set_option linter.unusedSimpArgs false
set_option linter.unusedVariables false

theorem finds_len (X : List Int) (hl : X.length ≤ 1000) : (findsT cccT X).length ≤ 10000000 := by
  have a := finds_bound cccT X (splitT X) fun s hs => (split_in X s hs).2.2
  have b := splitT_len X
  have c : (splitT X).length * (8 * X.length) ≤ 1000 * (8 * 1000) := Nat.mul_le_mul (by omega) (by omega)
  rw [findsT]; omega
theorem cnt_none {ks : List Int} {l : List (Int × Int)} (h : ∀ x ∈ l, inK ks x = false) : cntT ks l = 0 := by
  rw [cntT, List.filter_eq_nil_iff.2 fun x hx => by rw [h x hx]; simp]; rfl
theorem law_LintDone (X : List Int) (hl : X.length ≤ 9223372036854775806) (h : Heap) {K : PV → Heap → Prop} (k : K (.bool true) h) :
    CanP Tryz.prog 5 [.list false 1 X.length (X.map (.int .i64))] h K := by
  refine e5 rfl ?_
  try simp only [c5, r5_0, r5_1, r5_2, r5_3, r5_4, r5_5, r5_6, r5_7, r5_8, r5_9, r5_10, r5_11, pm, pmW, pmB, ft, ↓reduceIte, reduceCtorEq, nE, nA, nM, nD, nL, iL, iT, iE, iN, iC]
  by_cases h1 : 60 < X.length
  · have h1' : (60 : Int) < (X.length : Int) := by omega
    try simp only [h1', pm, pmW, pmB, ft, ↓reduceIte, reduceCtorEq, nE, nA, nM, nD, nL, iL, iT, iE, iN, iC]
    refine awake _ ?_
    try simp only [pm, pmW, pmB, ft, ↓reduceIte, reduceCtorEq, nE, nA, nM, nD, nL, iL, iT, iE, iN, iC]
    exact finK_rf k
  have h1' : ¬ (60 : Int) < (X.length : Int) := by omega
  have hm := mend_size X (by omega)
  have hpr := mend_pres X
  have hfi := mend_finds X
  try simp only [h1', pm, pmW, pmB, ft, ↓reduceIte, reduceCtorEq, nE, nA, nM, nD, nL, iL, iT, iE, iN, iC]
  refine New _ fun p hp => ?_
  try simp only [pm, pmW, pmB, ft, ↓reduceIte, reduceCtorEq, nE, nA, nM, nD, nL, iL, iT, iE, iN, iC]
  refine cccNew _ fun c hc => ?_
  try simp only [pm, pmW, pmB, ft, ↓reduceIte, reduceCtorEq, nE, nA, nM, nD, nL, iL, iT, iE, iN, iC]
  refine lintMended p hp c hc _ X (by omega) _ ?_
  generalize mendT X = Y at *
  try simp only [pm, pmW, pmB, ft, ↓reduceIte, reduceCtorEq, nE, nA, nM, nD, nL, iL, iT, iE, iN, iC]
  refine pwp_up Y.length (fun i σ h' => h' = h ∧ σ 3 = p ∧ σ 4 = c ∧ (∃ f, σ 5 = .list f 1 Y.length (Y.map (.int .i64))) ∧ (∃ f, σ 18 = .list f 1 Y.length (Y.map (.int .i64))) ∧ σ 19 = .int .i64 Y.length ∧ σ 20 = .int .i64 i) ?_ ?_
  · exact ⟨rfl, by simp [put], by simp [put], ⟨_, by simp [put]; rfl⟩, ⟨_, by simp [put]; rfl⟩, by simp [put], by simp [put]⟩
  rintro i σ h' K' hi ⟨rfl, s3, s4, ⟨f5, s5⟩, ⟨f18, s18⟩, s19, s20⟩ next
  rcases Nat.lt_or_ge i Y.length with hlt | hge
  · have hw : IntKind.i64.wrap ((i : Int) + 1) = (i : Int) + 1 := wrap_in (by omega) (by omega)
    have hx := getm (PV.int .i64) Y hlt
    have hpx := hpr _ (get_mem Y hlt)
    generalize Y.getD i default = x at *
    try simp only [s18, s19, s20, hlt, hx, pm, pmW, pmB, ft, ↓reduceIte, reduceCtorEq, nE, nA, nM, nD, nL, iL, iT, iE, iN, iC]
    refine PresentedR _ _ ?_
    cases hb : presB x
    · try simp only [s20, hw, pm, pmW, pmB, ft, ↓reduceIte, reduceCtorEq, nE, nA, nM, nD, nL, iL, iT, iE, iN, iC]
      refine next hlt _ _ ?_
      exact ⟨rfl, by simp [put, s3], by simp [put, s4], ⟨f5, by simp [put, s5]⟩, ⟨f18, by simp [put, s18]⟩, by simp [put, s19], by simp [put]⟩
    · have e := hpx hb
      subst e
      try simp only [s20, hw, pm, pmW, pmB, ft, ↓reduceIte, reduceCtorEq, nE, nA, nM, nD, nL, iL, iT, iE, iN, iC]
      refine next hlt _ _ ?_
      exact ⟨rfl, by simp [put, s3], by simp [put, s4], ⟨f5, by simp [put, s5]⟩, ⟨f18, by simp [put, s18]⟩, by simp [put, s19], by simp [put]⟩
  · have e : i = Y.length := by omega
    subst e
    have hnl := Nat.lt_irrefl Y.length
    have hfl := finds_len Y (by omega)
    have hlc : (findsT cccT Y).length ≤ Y.length * (8 * Y.length) := by
      have a := finds_bound cccT Y (splitT Y) fun s hs => (split_in Y s hs).2.2
      have b := splitT_len Y
      exact Nat.le_trans a (Nat.mul_le_mul_right _ b)
    have hlc2 : Y.length * (8 * Y.length) ≤ 240 * (8 * 240) := Nat.mul_le_mul (by omega) (by omega)
    try simp only [s3, s4, s5, s19, s20, hnl, pm, pmW, pmB, ft, ↓reduceIte, reduceCtorEq, nE, nA, nM, nD, nL, iL, iT, iE, iN, iC]
    refine lintCheck p hp c cccT hc _ Y (by omega) _ ?_
    try simp only [pm, pmW, pmB, ft, ↓reduceIte, reduceCtorEq, nE, nA, nM, nD, nL, iL, iT, iE, iN, iC]
    refine lintCount _ _ (findsT cccT Y) (by omega) [3, 6, 8] (by decide) _ ?_
    rw [cnt_none fun x hx => ?_]
    · try simp only [pm, pmW, pmB, ft, ↓reduceIte, reduceCtorEq, nE, nA, nM, nD, nL, iL, iT, iE, iN, iC]
      refine awake _ ?_
      try simp only [pm, pmW, pmB, ft, ↓reduceIte, reduceCtorEq, nE, nA, nM, nD, nL, iL, iT, iE, iN, iC]
      exact finK_rf k
    · obtain ⟨a1, a2, a3⟩ := hfi x hx
      simp [inK, a1, a2, a3]
def kinds_LintDone : List AKind := [.row [some .i64] 8]
theorem all_LintDone (pvs : List PV) (h : IsArgs kinds_LintDone pvs) : CanP Tryz.prog 5 pvs Heap.nil (fun v _ => v = .bool true) := by
  obtain ⟨p, r, rfl, ⟨rows, hr, hz, hl, rfl⟩, rfl⟩ := h
  obtain ⟨o, rfl, ho⟩ := rows_of (fun x => [.int .i64 x]) _ fits_int49 hr
  rw [flat_ints49]
  simp only [List.length_map] at hl hz ⊢
  exact law_LintDone o (by omega) _ rfl
end Go.Proofs.YtcgaphmndnmfdaaGreat
