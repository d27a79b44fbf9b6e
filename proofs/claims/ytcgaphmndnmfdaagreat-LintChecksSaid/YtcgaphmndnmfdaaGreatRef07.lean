/-
  What codes are, as the document says.
  Conditions: none but those that each sentence tells.
-/
import Derived.Test.YtcgaphmndnmfdaaGreatProps1
namespace Go.Proofs.YtcgaphmndnmfdaaGreat
open Go.Pm
open Nat renaming reduceEqDiff → nE, reduceAdd → nA, reduceMul → nM, reduceLeDiff → nD, reduceLT → nL
open Int renaming reduceLE → iL, reduceLT → iT, reduceEq → iE, reduceToNat → iN, cast_ofNat_Int → iC
set_option maxRecDepth 100000
set_option linter.unusedSimpArgs false
set_option linter.unusedVariables false

theorem GetR (fr : Bool) (l : List R3) (hl : l.length ≤ 1000000) (n c : Int) (h : Heap) {K : PV → Heap → Prop} (k : K (.int .i64 (getR l n c)) h) : CanP Tryz.prog 97 [.list fr 3 l.length (l.flatMap r3), .int .i64 n, .int .i64 c] h K := by
  refine e97 rfl ?_
  try simp only [c97, r97_0, r97_1, r97_2, r97_3, r97_4, r97_5, r97_6, old_r3, pm, pmW, pmB, ft, ↓reduceIte, reduceCtorEq, nE, nA, nM, nD, nL, iL, iT, iE, iN, iC]
  refine pwp_up l.length (fun i σ h' => h' = h ∧ σ 0 = .list false 3 l.length (l.flatMap r3) ∧ σ 1 = .int .i64 n ∧ σ 2 = .int .i64 c ∧ σ 7 = .int .i64 i ∧
    l.find? (fun r => decide (r.1 ≤ c ∧ c ≤ r.2.1)) = (l.drop i).find? (fun r => decide (r.1 ≤ c ∧ c ≤ r.2.1))) ?_ ?_
  · exact ⟨rfl, rfl, rfl, rfl, rfl, rfl⟩
  · rintro i σ h' K' hi ⟨rfl, s0, s1, s2, s7, hp⟩ next
    try simp only [s0, s7, cdK_dec, pm, pmW, pmB, ft, ↓reduceIte, reduceCtorEq, nE, nA, nM, nD, nL, iL, iT, iE, iN, iC]
    refine ⟨fun hlt => ?_, fun hge => ?_⟩
    · have x0 := flat_get r3 3 r3_len l hlt (j := 0) (by omega)
      have x1 := flat_get r3 3 r3_len l hlt (j := 1) (by omega)
      have x2 := flat_get r3 3 r3_len l hlt (j := 2) (by omega)
      rw [Nat.add_zero] at x0
      rw [drop_getD l hlt] at hp
      generalize l.getD i default = r at *
      by_cases h1 : r.1 ≤ c
      · by_cases h2 : c ≤ r.2.1
        · rw [List.find?_cons_of_pos (by simp [h1, h2])] at hp
          rw [getR, hp] at k
          try simp only [x0, x1, x2, hlt, h1, h2, s0, s1, s2, s7, r3, pm, pmW, pmB, ft, ↓reduceIte, reduceCtorEq, nE, nA, nM, nD, nL, iL, iT, iE, iN, iC]
          exact finK_le (Heap.le_refl _) k
        · rw [List.find?_cons_of_neg (by simp [h2])] at hp
          try simp only [x0, x1, x2, hlt, h1, h2, s0, s1, s2, s7, r3, pm, pmW, pmB, ft, ↓reduceIte, reduceCtorEq, nE, nA, nM, nD, nL, iL, iT, iE, iN, iC]
          rw [wrap_in (by omega) (by omega)]
          exact next hlt _ _ ⟨rfl, by simp [put, s0], by simp [put, s1], by simp [put, s2], by simp [put], hp⟩
      · rw [List.find?_cons_of_neg (by simp [h1])] at hp
        try simp only [x0, x1, x2, hlt, h1, s0, s1, s2, s7, r3, pm, pmW, pmB, ft, ↓reduceIte, reduceCtorEq, nE, nA, nM, nD, nL, iL, iT, iE, iN, iC]
        rw [wrap_in (by omega) (by omega)]
        exact next hlt _ _ ⟨rfl, by simp [put, s0], by simp [put, s1], by simp [put, s2], by simp [put], hp⟩
    · rw [List.drop_eq_nil_of_le (by omega)] at hp
      rw [getR, hp] at k
      try simp only [s1, pm, pmW, pmB, ft, ↓reduceIte, reduceCtorEq, nE, nA, nM, nD, nL, iL, iT, iE, iN, iC]
      exact finK_le (Heap.le_refl _) k
theorem ClassR (c : Int) (h : Heap) {K : PV → Heap → Prop} (k : K (.int .i64 (classT c)) h) : CanP Tryz.prog 58 [.int .i64 c] h K := by
  refine e58 rfl ?_
  try simp only [c58, r58_0, r58_1, r58_2, r58_3, pm, pmW, pmB, ft, ↓reduceIte, reduceCtorEq, nE, nA, nM, nD, nL, iL, iT, iE, iN, iC]
  by_cases h1 : c < 0
  · rw [classT, if_neg (by omega)] at k
    try simp only [h1, pm, pmW, pmB, ft, ↓reduceIte, reduceCtorEq, nE, nA, nM, nD, nL, iL, iT, iE, iN, iC]
    exact finK_le (Heap.le_refl _) k
  · by_cases h2 : 1114111 < c
    · rw [classT, if_neg (by omega)] at k
      try simp only [h1, h2, pm, pmW, pmB, ft, ↓reduceIte, reduceCtorEq, nE, nA, nM, nD, nL, iL, iT, iE, iN, iC]
      exact finK_le (Heap.le_refl _) k
    · rw [classT, if_pos (by omega)] at k
      try simp only [h1, h2, pm, pmW, pmB, ft, ↓reduceIte, reduceCtorEq, nE, nA, nM, nD, nL, iL, iT, iE, iN, iC]
      refine BidiRanges _ ?_
      try simp only [pm, pmW, pmB, ft, ↓reduceIte, reduceCtorEq, nE, nA, nM, nD, nL, iL, iT, iE, iN, iC]
      refine GetR _ _ (by decide) _ _ _ ?_
      try simp only [pm, pmW, pmB, ft, ↓reduceIte, reduceCtorEq, nE, nA, nM, nD, nL, iL, iT, iE, iN, iC]
      exact finK_le (Heap.le_refl _) k
theorem MarkR (c : Int) (h : Heap) {K : PV → Heap → Prop} (k : K (.bool (markT c)) h) : CanP Tryz.prog 100 [.int .i64 c] h K := by
  refine e100 rfl ?_
  try simp only [c100, r100_0, r100_1, pm, pmW, pmB, ft, ↓reduceIte, reduceCtorEq, nE, nA, nM, nD, nL, iL, iT, iE, iN, iC]
  refine ClassR _ _ ?_
  try simp only [pm, pmW, pmB, ft, ↓reduceIte, reduceCtorEq, nE, nA, nM, nD, nL, iL, iT, iE, iN, iC]
  refine finK_le (Heap.le_refl _) ?_
  have : markT c = decide (classT c = 8) := by unfold markT markC; by_cases e : classT c = 8 <;> simp [e]
  rw [this] at k; exact k
theorem ClassesR (fr : Bool) (l : List Int) (hl : l.length ≤ 1000000) (h : Heap) {K : PV → Heap → Prop} (k : K (.list true 1 l.length ((l.map classT).map (.int .i64))) h) : CanP Tryz.prog 26 [.list fr 1 l.length (l.map (.int .i64))] h K := by
  refine e26 rfl ?_
  try simp only [c26, r26_0, r26_1, r26_2, r26_3, r26_4, r26_5, r26_6, pm, pmW, pmB, ft, ↓reduceIte, reduceCtorEq, nE, nA, nM, nD, nL, iL, iT, iE, iN, iC]
  refine pwp_up l.length (fun i σ h' => Acc h h' (σ 3) 1 i (((l.take i).map classT).map (.int .i64)) ∧ h.le h' ∧ σ 0 = .list false 1 l.length (l.map (.int .i64)) ∧ σ 4 = .int .i64 i) ?_ ?_
  · exact ⟨Acc.nil _ _ _, Heap.le_refl _, rfl, rfl⟩
  · rintro i σ h' K' hi ⟨a, lh, s0, s4⟩ next
    try simp only [s0, s4, cdK_dec, pm, pmW, pmB, ft, ↓reduceIte, reduceCtorEq, nE, nA, nM, nD, nL, iL, iT, iE, iN, iC]
    refine ⟨fun hlt => ?_, fun hge => ?_⟩
    · have hx := getm (.int .i64) l hlt
      have ht : ((l.take (i + 1)).map classT).map (PV.int .i64) = ((l.take i).map classT).map (PV.int .i64) ++ [.int .i64 (classT (l.getD i default))] := by
        rw [take_succ_map classT l hlt, List.map_append]; rfl
      generalize l.getD i default = c at *
      try simp only [s0, s4, hx, hlt, pm, pmW, pmB, ft, ↓reduceIte, reduceCtorEq, nE, nA, nM, nD, nL, iL, iT, iE, iN, iC]
      refine ClassR _ _ ?_
      try simp only [pm, pmW, pmB, ft, ↓reduceIte, reduceCtorEq, nE, nA, nM, nD, nL, iL, iT, iE, iN, iC]
      refine a.app lh (by decide) rfl (by omega) (by simp only [maxLen]; omega) fun v' h3 a' l' sd => ?_
      try simp only [s4, pm, pmW, pmB, ft, ↓reduceIte, reduceCtorEq, nE, nA, nM, nD, nL, iL, iT, iE, iN, iC]
      rw [wrap_in (by omega) (by omega)]
      exact next hlt _ _ ⟨by rw [ht]; simpa [put] using a', l', by simp [put, s0], by simp [put]⟩
    · have hil : i = l.length := by omega
      subst hil
      try simp only [pm, pmW, pmB, ft, ↓reduceIte, reduceCtorEq, nE, nA, nM, nD, nL, iL, iT, iE, iN, iC]
      rw [List.take_length] at a
      exact a.fin lh (by rw [olds_ints]; exact k)
end Go.Proofs.YtcgaphmndnmfdaaGreat
