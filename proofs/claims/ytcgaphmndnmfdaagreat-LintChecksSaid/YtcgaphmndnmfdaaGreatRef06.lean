/-
  What a row of ranges tells of a code, as the document says.
  Conditions: none but those that each sentence tells.
-/
import Derived.Test.YtcgaphmndnmfdaaGreatRng0
namespace Go.Proofs.YtcgaphmndnmfdaaGreat
open Go.Pm
open Nat renaming reduceEqDiff → nE, reduceAdd → nA, reduceMul → nM, reduceLeDiff → nD, reduceLT → nL
open Int renaming reduceLE → iL, reduceLT → iT, reduceEq → iE, reduceToNat → iN, cast_ofNat_Int → iC
set_option maxRecDepth 100000
set_option linter.unusedSimpArgs false
set_option linter.unusedVariables false

theorem GetR6 (fr : Bool) (l : List R3) (hl : l.length ≤ 1000000) (n c : Int) (h : Heap) {K : PV → Heap → Prop} (k : K (.int .i64 (getR l n c)) h) : CanP Tryz.prog 97 [.list fr 3 l.length (l.flatMap r3), .int .i64 n, .int .i64 c] h K := by
  refine e97 rfl ?_
  try simp only [c97, r97_0, r97_1, r97_2, r97_3, r97_4, r97_5, r97_6, old_r3, pm, pmW, pmB, ft, ↓reduceIte, reduceCtorEq, nE, nA, nM, nD, nL, iL, iT, iE, iN, iC]
  refine pwp_up l.length (fun i σ h' => h' = h ∧ σ 0 = .list false 3 l.length (l.flatMap r3) ∧ σ 1 = .int .i64 n ∧ σ 2 = .int .i64 c ∧ σ 7 = .int .i64 i ∧
    l.find? (fun r => decide (r.1 ≤ c ∧ c ≤ r.2.1)) = (l.drop i).find? (fun r => decide (r.1 ≤ c ∧ c ≤ r.2.1))) ?_ ?_
  · exact ⟨rfl, rfl, rfl, rfl, rfl, rfl⟩
  · rintro i σ h' K' hi ⟨rfl, s0, s1, s2, s7, hp⟩ next
    try simp only [s0, s7, cdK_dec, pm, pmW, pmB, ft, ↓reduceIte, reduceCtorEq, nE, nA, nM, nD, nL, iL, iT, iE, iN, iC]
    refine ⟨fun hlt => ?_, fun hge => ?_⟩
    · have x0 := flat_get r3 3 r3_len l hlt (j := 0) (by omega)
      have x1 := flat_get r3 3 r3_len l hlt (j := 1) (by omega)
      have x2 := flat_get r3 3 r3_len l hlt (j := 2) (by omega)
      rw [Nat.add_zero] at x0
      rw [drop_getD l hlt] at hp
      generalize l.getD i default = r at *
      by_cases h1 : r.1 ≤ c
      · by_cases h2 : c ≤ r.2.1
        · rw [List.find?_cons_of_pos (by simp [h1, h2])] at hp
          rw [getR, hp] at k
          try simp only [x0, x1, x2, hlt, h1, h2, s0, s1, s2, s7, r3, pm, pmW, pmB, ft, ↓reduceIte, reduceCtorEq, nE, nA, nM, nD, nL, iL, iT, iE, iN, iC]
          exact finK_le (Heap.le_refl _) k
        · rw [List.find?_cons_of_neg (by simp [h2])] at hp
          try simp only [x0, x1, x2, hlt, h1, h2, s0, s1, s2, s7, r3, pm, pmW, pmB, ft, ↓reduceIte, reduceCtorEq, nE, nA, nM, nD, nL, iL, iT, iE, iN, iC]
          rw [wrap_in (by omega) (by omega)]
          exact next hlt _ _ ⟨rfl, by simp [put, s0], by simp [put, s1], by simp [put, s2], by simp [put], hp⟩
      · rw [List.find?_cons_of_neg (by simp [h1])] at hp
        try simp only [x0, x1, x2, hlt, h1, s0, s1, s2, s7, r3, pm, pmW, pmB, ft, ↓reduceIte, reduceCtorEq, nE, nA, nM, nD, nL, iL, iT, iE, iN, iC]
        rw [wrap_in (by omega) (by omega)]
        exact next hlt _ _ ⟨rfl, by simp [put, s0], by simp [put, s1], by simp [put, s2], by simp [put], hp⟩
    · rw [List.drop_eq_nil_of_le (by omega)] at hp
      rw [getR, hp] at k
      try simp only [s1, pm, pmW, pmB, ft, ↓reduceIte, reduceCtorEq, nE, nA, nM, nD, nL, iL, iT, iE, iN, iC]
      exact finK_le (Heap.le_refl _) k
end Go.Proofs.YtcgaphmndnmfdaaGreat
