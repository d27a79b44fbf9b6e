/-
  Whether two rows of whole numbers are alike (slices.Equal).
  Conditions: a row of at most a thousand million.
-/
import Derived.Test.YtcgaphmndnmfdaaGreatC
import Derived.Test.YtcgaphmndnmfdaaGreatPmT
namespace Go.Proofs.YtcgaphmndnmfdaaGreat
open Go.Pm
open Nat renaming reduceEqDiff → nE, reduceAdd → nA, reduceMul → nM, reduceLeDiff → nD, reduceLT → nL
open Int renaming reduceLE → iL, reduceLT → iT, reduceEq → iE, reduceToNat → iN, cast_ofNat_Int → iC
set_option maxRecDepth 100000
set_option linter.unusedSimpArgs false
set_option linter.unusedVariables false

theorem EqualI (fr fr2 : Bool) (a b : List Int) (hl : a.length ≤ 1000000000) (h : Heap) {K : PV → Heap → Prop} (k : K (.bool (decide (a = b))) h) :
    CanP Tryz.prog 11 [.list fr 1 a.length (a.map (.int .i64)), .list fr2 1 b.length (b.map (.int .i64))] h K := by
  refine e11 rfl ?_
  try simp only [c11, r11_0, r11_1, r11_2, r11_3, r11_4, r11_5, r11_6, r11_7, r11_8, r11_9, pm, pmW, pmB, ft, ↓reduceIte, reduceCtorEq, nE, nA, nM, nD, nL, iL, iT, iE, iN, iC]
  by_cases h1 : a.length = b.length
  · try simp only [h1, pm, pmW, pmB, ft, ↓reduceIte, reduceCtorEq, nE, nA, nM, nD, nL, iL, iT, iE, iN, iC]
    refine pwp_up a.length (fun i σ h' => h' = h ∧ σ 0 = .list false 1 b.length (a.map (.int .i64)) ∧ σ 1 = .list false 1 b.length (b.map (.int .i64)) ∧ σ 12 = .int .i64 b.length ∧ σ 13 = .int .i64 i ∧ decide (a = b) = decide (a.drop i = b.drop i)) ?_ ?_
    · exact ⟨rfl, rfl, rfl, rfl, rfl, rfl⟩
    · rintro i σ h' K' hi' ⟨rfl, s0, s1, s12, s13, hp⟩ next
      try simp only [s0, s1, s12, s13, cdK_dec, pm, pmW, pmB, ft, ↓reduceIte, reduceCtorEq, nE, nA, nM, nD, nL, iL, iT, iE, iN, iC]
      refine ⟨fun hlt => ?_, fun hge => ?_⟩
      · have hx := getm (.int .i64) a (h1 ▸ hlt)
        have hy := getm (.int .i64) b hlt
        rw [drop_getD a (h1 ▸ hlt), drop_getD b hlt] at hp
        generalize a.getD i default = p at *
        generalize b.getD i default = q at *
        try simp only [hx, hy, hlt, s0, s1, s12, s13, pm, pmW, pmB, ft, ↓reduceIte, reduceCtorEq, nE, nA, nM, nD, nL, iL, iT, iE, iN, iC]
        by_cases h2 : p = q
        · try simp only [h2, s0, s1, s12, s13, pm, pmW, pmB, ft, ↓reduceIte, reduceCtorEq, nE, nA, nM, nD, nL, iL, iT, iE, iN, iC]
          rw [wrap_in (by omega) (by omega)]
          refine next (h1 ▸ hlt) _ _ ⟨rfl, by simp [put, s0], by simp [put, s1], by simp [put, s12], by simp [put], by simpa [h2] using hp⟩
        · try simp only [h2, s0, s1, s12, s13, pm, pmW, pmB, ft, ↓reduceIte, reduceCtorEq, nE, nA, nM, nD, nL, iL, iT, iE, iN, iC]
          exact finK_le (Heap.le_refl _) (by simpa [hp, h2] using k)
      · try simp only [s0, pm, pmW, pmB, ft, ↓reduceIte, reduceCtorEq, nE, nA, nM, nD, nL, iL, iT, iE, iN, iC]
        refine finK_le (Heap.le_refl _) (by simpa [hp, List.drop_eq_nil_of_le (Nat.le_of_not_lt hge), List.drop_eq_nil_of_le (h1 ▸ Nat.le_of_not_lt hge)] using k)
  · try simp only [h1, pm, pmW, pmB, ft, ↓reduceIte, reduceCtorEq, nE, nA, nM, nD, nL, iL, iT, iE, iN, iC]
    exact finK_le (Heap.le_refl _) (by simpa [show a ≠ b from fun e => h1 (by rw [e])] using k)
theorem EqualI2 (fr fr2 : Bool) (a b : List Int) (m n : Nat) (hm : a.length = m) (hn : b.length = n) (hl : m ≤ 1000000000) (h : Heap) {K : PV → Heap → Prop} (k : K (.bool (decide (a = b))) h) :
    CanP Tryz.prog 11 [.list fr 1 m (a.map (.int .i64)), .list fr2 1 n (b.map (.int .i64))] h K := by
  subst hm hn; exact EqualI fr fr2 a b hl h k
end Go.Proofs.YtcgaphmndnmfdaaGreat
