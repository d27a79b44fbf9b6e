/-
  Where a whole number stands in a row, and whether it does (slices.Index, slices.Contains).
  Conditions: none but those that each sentence tells.
-/
import Derived.Test.YtcgaphmndnmfdaaC
import Derived.Test.YtcgaphmndnmfdaaPmT
namespace Go.Proofs.Ytcgaphmndnmfdaa
open Go.Pm
set_option maxRecDepth 100000
set_option linter.unusedSimpArgs false
set_option linter.unusedVariables false

theorem IndexI (fr : Bool) (l : List Int) (hl : l.length ≤ 9223372036854775806) (x : Int) (h : Heap) {K : PV → Heap → Prop} (k : K (.int .i64 (findI (fun y => decide (x = y)) l 0)) h) :
    CanP Try.prog 22 [.list fr 1 l.length (l.map (.int .i64)), .int .i64 x] h K := by
  refine e22 rfl ?_
  try simp only [c22, r22_0, r22_1, r22_2, r22_3, r22_4, r22_5, r22_6, r22_7, pmZ, Int.cast_ofNat_Int, beq_self_eq_true, Heap.kill_kset, pmC, pmE, pmS, pmV, pmK, pmQ, pmL, pmX, pmF, pmO, pmA, pmR, pmW, pmB, Option.isSome_some, ft, olds_ints, olds_bools, ↓reduceIte, Nat.reduceEqDiff, reduceCtorEq, Nat.reduceAdd, Nat.reduceMul, Nat.reduceLeDiff, Nat.reduceLT, Int.reduceLE, Int.reduceLT, Int.reduceEq, Int.reduceToNat, ne_eq]
  refine pwp_up l.length (fun i σ h' => h' = h ∧ σ 0 = .list false 1 l.length (l.map (.int .i64)) ∧ σ 1 = .int .i64 x ∧ σ 7 = .int .i64 l.length ∧ σ 8 = .int .i64 i ∧ findI (fun y => decide (x = y)) l 0 = findI (fun y => decide (x = y)) (l.drop i) i) ?_ ?_
  · exact ⟨rfl, rfl, rfl, rfl, rfl, rfl⟩
  · rintro i σ h' K' hi' ⟨rfl, s0, s1, s7, s8, hp⟩ next
    try simp only [s0, s1, s7, s8, cdK_dec, pmZ, Int.cast_ofNat_Int, beq_self_eq_true, Heap.kill_kset, pmC, pmE, pmS, pmV, pmK, pmQ, pmL, pmX, pmF, pmO, pmA, pmR, pmW, pmB, Option.isSome_some, ft, olds_ints, olds_bools, ↓reduceIte, Nat.reduceEqDiff, reduceCtorEq, Nat.reduceAdd, Nat.reduceMul, Nat.reduceLeDiff, Nat.reduceLT, Int.reduceLE, Int.reduceLT, Int.reduceEq, Int.reduceToNat, ne_eq]
    refine ⟨fun hlt => ?_, fun hge => ?_⟩
    · have hx := getm (.int .i64) l hlt
      rw [drop_getD l hlt] at hp
      generalize l.getD i default = p at *
      try simp only [hx, hlt, s0, s1, s7, s8, pmZ, Int.cast_ofNat_Int, beq_self_eq_true, Heap.kill_kset, pmC, pmE, pmS, pmV, pmK, pmQ, pmL, pmX, pmF, pmO, pmA, pmR, pmW, pmB, Option.isSome_some, ft, olds_ints, olds_bools, ↓reduceIte, Nat.reduceEqDiff, reduceCtorEq, Nat.reduceAdd, Nat.reduceMul, Nat.reduceLeDiff, Nat.reduceLT, Int.reduceLE, Int.reduceLT, Int.reduceEq, Int.reduceToNat, ne_eq]
      by_cases h1 : x = p
      · subst h1
        try simp only [s0, s1, s7, s8, pmZ, Int.cast_ofNat_Int, beq_self_eq_true, Heap.kill_kset, pmC, pmE, pmS, pmV, pmK, pmQ, pmL, pmX, pmF, pmO, pmA, pmR, pmW, pmB, Option.isSome_some, ft, olds_ints, olds_bools, ↓reduceIte, Nat.reduceEqDiff, reduceCtorEq, Nat.reduceAdd, Nat.reduceMul, Nat.reduceLeDiff, Nat.reduceLT, Int.reduceLE, Int.reduceLT, Int.reduceEq, Int.reduceToNat, ne_eq]
        exact finK_le (Heap.le_refl _) (by simpa [hp, findI] using k)
      · try simp only [h1, s0, s1, s7, s8, pmZ, Int.cast_ofNat_Int, beq_self_eq_true, Heap.kill_kset, pmC, pmE, pmS, pmV, pmK, pmQ, pmL, pmX, pmF, pmO, pmA, pmR, pmW, pmB, Option.isSome_some, ft, olds_ints, olds_bools, ↓reduceIte, Nat.reduceEqDiff, reduceCtorEq, Nat.reduceAdd, Nat.reduceMul, Nat.reduceLeDiff, Nat.reduceLT, Int.reduceLE, Int.reduceLT, Int.reduceEq, Int.reduceToNat, ne_eq]
        rw [wrap_in (by omega) (by omega)]
        exact next hlt _ _ ⟨rfl, by simp [put, s0], by simp [put, s1], by simp [put, s7], by simp [put], by simpa [findI, h1] using hp⟩
    · try simp only [s0, pmZ, Int.cast_ofNat_Int, beq_self_eq_true, Heap.kill_kset, pmC, pmE, pmS, pmV, pmK, pmQ, pmL, pmX, pmF, pmO, pmA, pmR, pmW, pmB, Option.isSome_some, ft, olds_ints, olds_bools, ↓reduceIte, Nat.reduceEqDiff, reduceCtorEq, Nat.reduceAdd, Nat.reduceMul, Nat.reduceLeDiff, Nat.reduceLT, Int.reduceLE, Int.reduceLT, Int.reduceEq, Int.reduceToNat, ne_eq]
      exact finK_le (Heap.le_refl _) (by simpa [hp, findI, List.drop_eq_nil_of_le (Nat.le_of_not_lt hge)] using k)
theorem ContainsI (fr : Bool) (l : List Int) (hl : l.length ≤ 9223372036854775806) (x : Int) (h : Heap) {K : PV → Heap → Prop} (k : K (.bool (l.contains x)) h) :
    CanP Try.prog 13 [.list fr 1 l.length (l.map (.int .i64)), .int .i64 x] h K := by
  refine e13 rfl ?_
  try simp only [c13, r13_0, r13_1, pmZ, Int.cast_ofNat_Int, beq_self_eq_true, Heap.kill_kset, pmC, pmE, pmS, pmV, pmK, pmQ, pmL, pmX, pmF, pmO, pmA, pmR, pmW, pmB, Option.isSome_some, ft, olds_ints, olds_bools, ↓reduceIte, Nat.reduceEqDiff, reduceCtorEq, Nat.reduceAdd, Nat.reduceMul, Nat.reduceLeDiff, Nat.reduceLT, Int.reduceLE, Int.reduceLT, Int.reduceEq, Int.reduceToNat, ne_eq]
  refine IndexI _ _ hl _ _ ?_
  try simp only [pmZ, Int.cast_ofNat_Int, beq_self_eq_true, Heap.kill_kset, pmC, pmE, pmS, pmV, pmK, pmQ, pmL, pmX, pmF, pmO, pmA, pmR, pmW, pmB, Option.isSome_some, ft, olds_ints, olds_bools, ↓reduceIte, Nat.reduceEqDiff, reduceCtorEq, Nat.reduceAdd, Nat.reduceMul, Nat.reduceLeDiff, Nat.reduceLT, Int.reduceLE, Int.reduceLT, Int.reduceEq, Int.reduceToNat, ne_eq]
  have e : decide (0 ≤ findI (fun y => decide (x = y)) l 0) = l.contains x := by
    rw [findI_nonneg _ _ _ (Int.le_refl _)]
    clear k hl
    induction l with
    | nil => rfl
    | cons y l ih => simp only [List.any_cons, List.contains_cons]; rw [ih]; rfl
  exact finK_le (Heap.le_refl _) (by rw [e]; exact k)
end Go.Proofs.Ytcgaphmndnmfdaa
