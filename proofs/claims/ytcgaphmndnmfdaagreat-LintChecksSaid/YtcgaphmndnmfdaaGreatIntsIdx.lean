/-
  Where a whole number stands in a row, and whether it does (slices.Index, slices.Contains).
  Conditions: none but those that each sentence tells.
-/
import Derived.Test.YtcgaphmndnmfdaaGreatC
import Derived.Test.YtcgaphmndnmfdaaGreatPmT
namespace Go.Proofs.YtcgaphmndnmfdaaGreat
open Go.Pm
open Nat renaming reduceEqDiff → nE, reduceAdd → nA, reduceMul → nM, reduceLeDiff → nD, reduceLT → nL
open Int renaming reduceLE → iL, reduceLT → iT, reduceEq → iE, reduceToNat → iN, cast_ofNat_Int → iC
set_option maxRecDepth 100000
set_option linter.unusedSimpArgs false
set_option linter.unusedVariables false

theorem IndexI (fr : Bool) (l : List Int) (hl : l.length ≤ 9223372036854775806) (x : Int) (h : Heap) {K : PV → Heap → Prop} (k : K (.int .i64 (findI (fun y => decide (x = y)) l 0)) h) :
    CanP Tryz.prog 84 [.list fr 1 l.length (l.map (.int .i64)), .int .i64 x] h K := by
  refine e84 rfl ?_
  try simp only [c84, r84_0, r84_1, r84_2, r84_3, r84_4, r84_5, r84_6, r84_7, pm, pmW, pmB, ft, ↓reduceIte, reduceCtorEq, nE, nA, nM, nD, nL, iL, iT, iE, iN, iC]
  refine pwp_up l.length (fun i σ h' => h' = h ∧ σ 0 = .list false 1 l.length (l.map (.int .i64)) ∧ σ 1 = .int .i64 x ∧ σ 7 = .int .i64 l.length ∧ σ 8 = .int .i64 i ∧ findI (fun y => decide (x = y)) l 0 = findI (fun y => decide (x = y)) (l.drop i) i) ?_ ?_
  · exact ⟨rfl, rfl, rfl, rfl, rfl, rfl⟩
  · rintro i σ h' K' hi' ⟨rfl, s0, s1, s7, s8, hp⟩ next
    try simp only [s0, s1, s7, s8, cdK_dec, pm, pmW, pmB, ft, ↓reduceIte, reduceCtorEq, nE, nA, nM, nD, nL, iL, iT, iE, iN, iC]
    refine ⟨fun hlt => ?_, fun hge => ?_⟩
    · have hx := getm (.int .i64) l hlt
      rw [drop_getD l hlt] at hp
      generalize l.getD i default = p at *
      try simp only [hx, hlt, s0, s1, s7, s8, pm, pmW, pmB, ft, ↓reduceIte, reduceCtorEq, nE, nA, nM, nD, nL, iL, iT, iE, iN, iC]
      by_cases h1 : x = p
      · subst h1
        try simp only [s0, s1, s7, s8, pm, pmW, pmB, ft, ↓reduceIte, reduceCtorEq, nE, nA, nM, nD, nL, iL, iT, iE, iN, iC]
        exact finK_le (Heap.le_refl _) (by simpa [hp, findI] using k)
      · try simp only [h1, s0, s1, s7, s8, pm, pmW, pmB, ft, ↓reduceIte, reduceCtorEq, nE, nA, nM, nD, nL, iL, iT, iE, iN, iC]
        rw [wrap_in (by omega) (by omega)]
        exact next hlt _ _ ⟨rfl, by simp [put, s0], by simp [put, s1], by simp [put, s7], by simp [put], by simpa [findI, h1] using hp⟩
    · try simp only [s0, pm, pmW, pmB, ft, ↓reduceIte, reduceCtorEq, nE, nA, nM, nD, nL, iL, iT, iE, iN, iC]
      exact finK_le (Heap.le_refl _) (by simpa [hp, findI, List.drop_eq_nil_of_le (Nat.le_of_not_lt hge)] using k)
theorem ContainsI (fr : Bool) (l : List Int) (hl : l.length ≤ 9223372036854775806) (x : Int) (h : Heap) {K : PV → Heap → Prop} (k : K (.bool (l.contains x)) h) :
    CanP Tryz.prog 44 [.list fr 1 l.length (l.map (.int .i64)), .int .i64 x] h K := by
  refine e44 rfl ?_
  try simp only [c44, r44_0, r44_1, pm, pmW, pmB, ft, ↓reduceIte, reduceCtorEq, nE, nA, nM, nD, nL, iL, iT, iE, iN, iC]
  refine IndexI _ _ hl _ _ ?_
  try simp only [pm, pmW, pmB, ft, ↓reduceIte, reduceCtorEq, nE, nA, nM, nD, nL, iL, iT, iE, iN, iC]
  have e : decide (0 ≤ findI (fun y => decide (x = y)) l 0) = l.contains x := by
    rw [findI_nonneg _ _ _ (Int.le_refl _)]
    clear k hl
    induction l with
    | nil => rfl
    | cons y l ih => simp only [List.any_cons, List.contains_cons]; rw [ih]; rfl
  exact finK_le (Heap.le_refl _) (by rw [e]; exact k)
end Go.Proofs.YtcgaphmndnmfdaaGreat
