/-
  A row of whole numbers once more (slices.Clone).
  Conditions: a row of at most ten million.
-/
import Derived.Test.YtcgaphmndnmfdaaGreatC
import Derived.Test.YtcgaphmndnmfdaaGreatPmT
namespace Go.Proofs.YtcgaphmndnmfdaaGreat
open Go.Pm
open Nat renaming reduceEqDiff → nE, reduceAdd → nA, reduceMul → nM, reduceLeDiff → nD, reduceLT → nL
open Int renaming reduceLE → iL, reduceLT → iT, reduceEq → iE, reduceToNat → iN, cast_ofNat_Int → iC
set_option maxRecDepth 100000
set_option linter.unusedSimpArgs false
set_option linter.unusedVariables false

theorem CloneI (fr : Bool) (l : List Int) (hl : l.length ≤ 10000000) (h : Heap) {K : PV → Heap → Prop}
    (k0 : l.length = 0 → K (.list true 1 0 []) h)
    (k : l.length ≠ 0 → ∀ b h', h.f b = none → h'.f b = some (l.map (.int .i64)) → h.le h' → K (.buf b 1 0 l.length) h') :
    CanP Tryz.prog 103 [.list fr 1 l.length (l.map (.int .i64))] h K := by
  refine e103 rfl ?_
  try simp only [c103, r103_0, r103_1, r103_2, r103_3, pm, pmW, pmB, ft, ↓reduceIte, reduceCtorEq, nE, nA, nM, nD, nL, iL, iT, iE, iN, iC]
  by_cases h0 : l.length = 0
  · have k1 := k0 h0
    have e0 : l = [] := List.eq_nil_of_length_eq_zero h0
    subst e0
    try simp only [h0, pm, pmW, pmB, ft, ↓reduceIte, reduceCtorEq, nE, nA, nM, nD, nL, iL, iT, iE, iN, iC]
    refine ⟨?_, ?_⟩
    · exact (Acc.nil h h 1).fin (Heap.le_refl _) k1
    · intro b hb
      try simp only [List.map_nil, Heap.kill_none hb, pm, pmW, pmB, ft, ↓reduceIte, reduceCtorEq, nE, nA, nM, nD, nL, iL, iT, iE, iN, iC]
      refine ⟨by decide, fun b' hb' => ?_⟩
      have hf := fresh_or hb hb'
      exact (Acc.buf (E := 1) (n := 0) hf (Heap.set_same _ _ _) rfl).fin (Heap.le_set (Heap.le_refl _) hf) k1
  · try simp only [h0, pm, pmW, pmB, ft, ↓reduceIte, reduceCtorEq, nE, nA, nM, nD, nL, iL, iT, iE, iN, iC]
    intro b hb
    try simp only [List.length_map, Heap.kill_none hb, pm, pmW, pmB, ft, ↓reduceIte, reduceCtorEq, nE, nA, nM, nD, nL, iL, iT, iE, iN, iC]
    refine ⟨by omega, by simp only [maxLen]; omega, fun b' hb' => ?_⟩
    have hf := fresh_or hb hb'
    exact finK_rf (k h0 _ _ hf (Heap.set_same _ _ _) (Heap.le_set (Heap.le_refl _) hf))
theorem CloneF (fr : Bool) (l : List Int) (hl : l.length ≤ 10000000) (h : Heap) {K : PV → Heap → Prop} (k : K (.list true 1 l.length (l.map (.int .i64))) h) :
    CanP Tryz.prog 103 [.list fr 1 l.length (l.map (.int .i64))] h K := by
  refine e103 rfl ?_
  try simp only [c103, r103_0, r103_1, r103_2, r103_3, pm, pmW, pmB, ft, ↓reduceIte, reduceCtorEq, nE, nA, nM, nD, nL, iL, iT, iE, iN, iC]
  by_cases h0 : l.length = 0
  · have e0 : l = [] := List.eq_nil_of_length_eq_zero h0
    subst e0
    try simp only [h0, pm, pmW, pmB, ft, ↓reduceIte, reduceCtorEq, nE, nA, nM, nD, nL, iL, iT, iE, iN, iC]
    refine ⟨?_, ?_⟩
    · exact (Acc.nil h h 1).fin (Heap.le_refl _) k
    · intro b hb
      try simp only [List.map_nil, Heap.kill_none hb, pm, pmW, pmB, ft, ↓reduceIte, reduceCtorEq, nE, nA, nM, nD, nL, iL, iT, iE, iN, iC]
      refine ⟨by decide, fun b' hb' => ?_⟩
      have hf := fresh_or hb hb'
      exact (Acc.buf (E := 1) (n := 0) hf (Heap.set_same _ _ _) rfl).fin (Heap.le_set (Heap.le_refl _) hf) k
  · try simp only [h0, pm, pmW, pmB, ft, ↓reduceIte, reduceCtorEq, nE, nA, nM, nD, nL, iL, iT, iE, iN, iC]
    intro b hb
    try simp only [List.length_map, Heap.kill_none hb, pm, pmW, pmB, ft, ↓reduceIte, reduceCtorEq, nE, nA, nM, nD, nL, iL, iT, iE, iN, iC]
    refine ⟨by omega, by simp only [maxLen]; omega, fun b' hb' => ?_⟩
    have hf := fresh_or hb hb'
    exact (Acc.buf (E := 1) (n := l.length) hf (Heap.set_same _ _ _) (by simp)).fin (Heap.le_set (Heap.le_refl _) hf) (by rw [olds_ints]; exact k)
end Go.Proofs.YtcgaphmndnmfdaaGreat
