/-
  The laws PickBoth (P45.1) and PickMany (P45.2).
-/
import Derived.Test.YthoggjdkabhpkaaPk9
namespace Go.Proofs.Ythoggjdkabhpkaa
open Go.Pm
set_option maxRecDepth 100000
set_option linter.unusedSimpArgs false
set_option linter.unusedVariables false

theorem law_PickBoth (X : List Int) (hl : X.length ≤ 9223372036854775806) (p q : Int × Int) (h : Heap) {K : PV → Heap → Prop} (k : K (.bool true) h) :
    CanP Try.prog 5 [.list false 1 X.length (X.map (.int .i64)), .agg (sp p), .agg (sp q)] h K := by
  refine e5 rfl ?_
  try simp only [c5, r5_0, r5_1, r5_2, r5_3, r5_4, r5_5, r5_6, r5_7, r5_8, r5_9, r5_10, r5_11, r5_12, r5_13, r5_14, r5_15, r5_16, r5_17, sp, or_false, false_or, Bool.and_self, Bool.and_true, Bool.true_and, Bool.and_false, Bool.false_and, Bool.not_not, Int.cast_ofNat_Int, beq_self_eq_true, Heap.set_same, Heap.set_set, Heap.kill_kset, Int.toNat_natCast, Int.natCast_nonneg, Int.ofNat_lt, Int.ofNat_le, Int.natCast_inj, pmC, pmE, pmS, pmV, pmK, pmQ, pmL, pmX, pmF, pmO, pmA, pmR, pmW, pmB, Option.isSome_some, ft, olds_ints, olds_bools, ↓reduceIte, Nat.reduceEqDiff, reduceCtorEq, Nat.reduceAdd, Nat.reduceMul, Nat.reduceLeDiff, Nat.reduceLT, Int.reduceLE, Int.reduceLT, Int.reduceEq, Int.reduceToNat, Nat.zero_mul, Nat.zero_add, Nat.mul_one, ne_eq, not_false_eq_true, not_true_eq_false, true_and, and_true, decide_true, decide_false, Bool.not_true, Bool.not_false, Bool.false_eq_true, and_self, Nat.add_zero]
  by_cases h1 : 100 < X.length
  · have h1' : (100 : Int) < (X.length : Int) := by omega
    try simp only [h1', or_false, false_or, Bool.and_self, Bool.and_true, Bool.true_and, Bool.and_false, Bool.false_and, Bool.not_not, Int.cast_ofNat_Int, beq_self_eq_true, Heap.set_same, Heap.set_set, Heap.kill_kset, Int.toNat_natCast, Int.natCast_nonneg, Int.ofNat_lt, Int.ofNat_le, Int.natCast_inj, pmC, pmE, pmS, pmV, pmK, pmQ, pmL, pmX, pmF, pmO, pmA, pmR, pmW, pmB, Option.isSome_some, ft, olds_ints, olds_bools, ↓reduceIte, Nat.reduceEqDiff, reduceCtorEq, Nat.reduceAdd, Nat.reduceMul, Nat.reduceLeDiff, Nat.reduceLT, Int.reduceLE, Int.reduceLT, Int.reduceEq, Int.reduceToNat, Nat.zero_mul, Nat.zero_add, Nat.mul_one, ne_eq, not_false_eq_true, not_true_eq_false, true_and, and_true, decide_true, decide_false, Bool.not_true, Bool.not_false, Bool.false_eq_true, and_self, Nat.add_zero]
    refine awake _ ?_
    try simp only [or_false, false_or, Bool.and_self, Bool.and_true, Bool.true_and, Bool.and_false, Bool.false_and, Bool.not_not, Int.cast_ofNat_Int, beq_self_eq_true, Heap.set_same, Heap.set_set, Heap.kill_kset, Int.toNat_natCast, Int.natCast_nonneg, Int.ofNat_lt, Int.ofNat_le, Int.natCast_inj, pmC, pmE, pmS, pmV, pmK, pmQ, pmL, pmX, pmF, pmO, pmA, pmR, pmW, pmB, Option.isSome_some, ft, olds_ints, olds_bools, ↓reduceIte, Nat.reduceEqDiff, reduceCtorEq, Nat.reduceAdd, Nat.reduceMul, Nat.reduceLeDiff, Nat.reduceLT, Int.reduceLE, Int.reduceLT, Int.reduceEq, Int.reduceToNat, Nat.zero_mul, Nat.zero_add, Nat.mul_one, ne_eq, not_false_eq_true, not_true_eq_false, true_and, and_true, decide_true, decide_false, Bool.not_true, Bool.not_false, Bool.false_eq_true, and_self, Nat.add_zero]
    exact finK_rf k
  have h1' : ¬ (100 : Int) < (X.length : Int) := by omega
  try simp only [h1', or_false, false_or, Bool.and_self, Bool.and_true, Bool.true_and, Bool.and_false, Bool.false_and, Bool.not_not, Int.cast_ofNat_Int, beq_self_eq_true, Heap.set_same, Heap.set_set, Heap.kill_kset, Int.toNat_natCast, Int.natCast_nonneg, Int.ofNat_lt, Int.ofNat_le, Int.natCast_inj, pmC, pmE, pmS, pmV, pmK, pmQ, pmL, pmX, pmF, pmO, pmA, pmR, pmW, pmB, Option.isSome_some, ft, olds_ints, olds_bools, ↓reduceIte, Nat.reduceEqDiff, reduceCtorEq, Nat.reduceAdd, Nat.reduceMul, Nat.reduceLeDiff, Nat.reduceLT, Int.reduceLE, Int.reduceLT, Int.reduceEq, Int.reduceToNat, Nat.zero_mul, Nat.zero_add, Nat.mul_one, ne_eq, not_false_eq_true, not_true_eq_false, true_and, and_true, decide_true, decide_false, Bool.not_true, Bool.not_false, Bool.false_eq_true, and_self, Nat.add_zero]
  refine VisualR _ X (by omega) _ fun o po => ?_
  obtain ⟨ol, ob⟩ := perm_order po
  try simp only [or_false, false_or, Bool.and_self, Bool.and_true, Bool.true_and, Bool.and_false, Bool.false_and, Bool.not_not, Int.cast_ofNat_Int, beq_self_eq_true, Heap.set_same, Heap.set_set, Heap.kill_kset, Int.toNat_natCast, Int.natCast_nonneg, Int.ofNat_lt, Int.ofNat_le, Int.natCast_inj, pmC, pmE, pmS, pmV, pmK, pmQ, pmL, pmX, pmF, pmO, pmA, pmR, pmW, pmB, Option.isSome_some, ft, olds_ints, olds_bools, ↓reduceIte, Nat.reduceEqDiff, reduceCtorEq, Nat.reduceAdd, Nat.reduceMul, Nat.reduceLeDiff, Nat.reduceLT, Int.reduceLE, Int.reduceLT, Int.reduceEq, Int.reduceToNat, Nat.zero_mul, Nat.zero_add, Nat.mul_one, ne_eq, not_false_eq_true, not_true_eq_false, true_and, and_true, decide_true, decide_false, Bool.not_true, Bool.not_false, Bool.false_eq_true, and_self, Nat.add_zero]
  refine Cells _ _ o (by omega) [p] (by simp) _ ?_
  by_cases e1 : mayZ o [p] = 0
  · by_cases e2 : mayZ o [q] = 0
    · have e3 : mayZ o [p, q] = 0 := by
        obtain ⟨-, a1, a2, a3⟩ := may0 e1
        obtain ⟨-, b1, b2, b3⟩ := may0 e2
        simp [mayZ, ob, wrongS, a1, a2, a3, b1, b2, b3]
      rw [cellsP, if_pos e1]
      try simp only [olds_bools, or_false, false_or, Bool.and_self, Bool.and_true, Bool.true_and, Bool.and_false, Bool.false_and, Bool.not_not, Int.cast_ofNat_Int, beq_self_eq_true, Heap.set_same, Heap.set_set, Heap.kill_kset, Int.toNat_natCast, Int.natCast_nonneg, Int.ofNat_lt, Int.ofNat_le, Int.natCast_inj, pmC, pmE, pmS, pmV, pmK, pmQ, pmL, pmX, pmF, pmO, pmA, pmR, pmW, pmB, Option.isSome_some, ft, olds_ints, olds_bools, ↓reduceIte, Nat.reduceEqDiff, reduceCtorEq, Nat.reduceAdd, Nat.reduceMul, Nat.reduceLeDiff, Nat.reduceLT, Int.reduceLE, Int.reduceLT, Int.reduceEq, Int.reduceToNat, Nat.zero_mul, Nat.zero_add, Nat.mul_one, ne_eq, not_false_eq_true, not_true_eq_false, true_and, and_true, decide_true, decide_false, Bool.not_true, Bool.not_false, Bool.false_eq_true, and_self, Nat.add_zero]
      refine Cells _ _ o (by omega) [q] (by simp) _ ?_
      rw [cellsP, if_pos e2]
      try simp only [olds_bools, or_false, false_or, Bool.and_self, Bool.and_true, Bool.true_and, Bool.and_false, Bool.false_and, Bool.not_not, Int.cast_ofNat_Int, beq_self_eq_true, Heap.set_same, Heap.set_set, Heap.kill_kset, Int.toNat_natCast, Int.natCast_nonneg, Int.ofNat_lt, Int.ofNat_le, Int.natCast_inj, pmC, pmE, pmS, pmV, pmK, pmQ, pmL, pmX, pmF, pmO, pmA, pmR, pmW, pmB, Option.isSome_some, ft, olds_ints, olds_bools, ↓reduceIte, Nat.reduceEqDiff, reduceCtorEq, Nat.reduceAdd, Nat.reduceMul, Nat.reduceLeDiff, Nat.reduceLT, Int.reduceLE, Int.reduceLT, Int.reduceEq, Int.reduceToNat, Nat.zero_mul, Nat.zero_add, Nat.mul_one, ne_eq, not_false_eq_true, not_true_eq_false, true_and, and_true, decide_true, decide_false, Bool.not_true, Bool.not_false, Bool.false_eq_true, and_self, Nat.add_zero]
      refine Cells _ _ o (by omega) [p, q] (by simp) _ ?_
      rw [cellsP, if_pos e3]
      try simp only [olds_bools, or_false, false_or, Bool.and_self, Bool.and_true, Bool.true_and, Bool.and_false, Bool.false_and, Bool.not_not, Int.cast_ofNat_Int, beq_self_eq_true, Heap.set_same, Heap.set_set, Heap.kill_kset, Int.toNat_natCast, Int.natCast_nonneg, Int.ofNat_lt, Int.ofNat_le, Int.natCast_inj, pmC, pmE, pmS, pmV, pmK, pmQ, pmL, pmX, pmF, pmO, pmA, pmR, pmW, pmB, Option.isSome_some, ft, olds_ints, olds_bools, ↓reduceIte, Nat.reduceEqDiff, reduceCtorEq, Nat.reduceAdd, Nat.reduceMul, Nat.reduceLeDiff, Nat.reduceLT, Int.reduceLE, Int.reduceLT, Int.reduceEq, Int.reduceToNat, Nat.zero_mul, Nat.zero_add, Nat.mul_one, ne_eq, not_false_eq_true, not_true_eq_false, true_and, and_true, decide_true, decide_false, Bool.not_true, Bool.not_false, Bool.false_eq_true, and_self, Nat.add_zero]
      refine pwp_up o.length (fun i σ h' => h' = h ∧ σ 8 = .list true 1 o.length ((cellsB o [p]).map .bool) ∧ σ 10 = .list true 1 o.length ((cellsB o [q]).map .bool) ∧ σ 12 = .list true 1 o.length ((cellsB o [p, q]).map .bool) ∧ σ 76 = .int .i64 o.length ∧ σ 77 = .int .i64 i) ?_ ?_
      · exact ⟨rfl, by simp [put], by simp [put], by simp [put], by simp [put], by simp [put]⟩
      rintro i σ h' K' hi ⟨rfl, s8, s10, s12, s76, s77⟩ next
      rcases Nat.lt_or_ge i o.length with hlt | hge
      · have hw : IntKind.i64.wrap ((i : Int) + 1) = (i : Int) + 1 := wrap_in (by omega) (by omega)
        have g : ∀ l, (cellsB o l).getD i default = l.any (hasB (o.getD i default)) := fun l => by simp [cellsB, List.getD, hlt]
        have x1 := getm PV.bool (cellsB o [p]) (i := i) (by simpa [cellsB] using hlt)
        have x2 := getm PV.bool (cellsB o [q]) (i := i) (by simpa [cellsB] using hlt)
        have x3 := getm PV.bool (cellsB o [p, q]) (i := i) (by simpa [cellsB] using hlt)
        rw [g] at x1 x2 x3
        simp only [List.any_cons, List.any_nil, Bool.or_false] at x1 x2 x3
        generalize hasB (o.getD i default) p = c at *
        generalize hasB (o.getD i default) q = d at *
        cases c
        · try simp only [s8, s10, s12, s76, s77, hlt, hw, x1, x2, x3, Bool.false_or, or_false, false_or, Bool.and_self, Bool.and_true, Bool.true_and, Bool.and_false, Bool.false_and, Bool.not_not, Int.cast_ofNat_Int, beq_self_eq_true, Heap.set_same, Heap.set_set, Heap.kill_kset, Int.toNat_natCast, Int.natCast_nonneg, Int.ofNat_lt, Int.ofNat_le, Int.natCast_inj, pmC, pmE, pmS, pmV, pmK, pmQ, pmL, pmX, pmF, pmO, pmA, pmR, pmW, pmB, Option.isSome_some, ft, olds_ints, olds_bools, ↓reduceIte, Nat.reduceEqDiff, reduceCtorEq, Nat.reduceAdd, Nat.reduceMul, Nat.reduceLeDiff, Nat.reduceLT, Int.reduceLE, Int.reduceLT, Int.reduceEq, Int.reduceToNat, Nat.zero_mul, Nat.zero_add, Nat.mul_one, ne_eq, not_false_eq_true, not_true_eq_false, true_and, and_true, decide_true, decide_false, Bool.not_true, Bool.not_false, Bool.false_eq_true, and_self, Nat.add_zero]
          exact next hlt _ _ ⟨rfl, by simp [put, s8], by simp [put, s10], by simp [put, s12], by simp [put, s76], by simp [put]⟩
        · try simp only [s8, s10, s12, s76, s77, hlt, hw, x1, x2, x3, Bool.true_or, or_false, false_or, Bool.and_self, Bool.and_true, Bool.true_and, Bool.and_false, Bool.false_and, Bool.not_not, Int.cast_ofNat_Int, beq_self_eq_true, Heap.set_same, Heap.set_set, Heap.kill_kset, Int.toNat_natCast, Int.natCast_nonneg, Int.ofNat_lt, Int.ofNat_le, Int.natCast_inj, pmC, pmE, pmS, pmV, pmK, pmQ, pmL, pmX, pmF, pmO, pmA, pmR, pmW, pmB, Option.isSome_some, ft, olds_ints, olds_bools, ↓reduceIte, Nat.reduceEqDiff, reduceCtorEq, Nat.reduceAdd, Nat.reduceMul, Nat.reduceLeDiff, Nat.reduceLT, Int.reduceLE, Int.reduceLT, Int.reduceEq, Int.reduceToNat, Nat.zero_mul, Nat.zero_add, Nat.mul_one, ne_eq, not_false_eq_true, not_true_eq_false, true_and, and_true, decide_true, decide_false, Bool.not_true, Bool.not_false, Bool.false_eq_true, and_self, Nat.add_zero]
          exact next hlt _ _ ⟨rfl, by simp [put, s8], by simp [put, s10], by simp [put, s12], by simp [put, s76], by simp [put]⟩
      · have e : i = o.length := by omega
        subst e
        have hnl := Nat.lt_irrefl o.length
        try simp only [s76, s77, hnl, or_false, false_or, Bool.and_self, Bool.and_true, Bool.true_and, Bool.and_false, Bool.false_and, Bool.not_not, Int.cast_ofNat_Int, beq_self_eq_true, Heap.set_same, Heap.set_set, Heap.kill_kset, Int.toNat_natCast, Int.natCast_nonneg, Int.ofNat_lt, Int.ofNat_le, Int.natCast_inj, pmC, pmE, pmS, pmV, pmK, pmQ, pmL, pmX, pmF, pmO, pmA, pmR, pmW, pmB, Option.isSome_some, ft, olds_ints, olds_bools, ↓reduceIte, Nat.reduceEqDiff, reduceCtorEq, Nat.reduceAdd, Nat.reduceMul, Nat.reduceLeDiff, Nat.reduceLT, Int.reduceLE, Int.reduceLT, Int.reduceEq, Int.reduceToNat, Nat.zero_mul, Nat.zero_add, Nat.mul_one, ne_eq, not_false_eq_true, not_true_eq_false, true_and, and_true, decide_true, decide_false, Bool.not_true, Bool.not_false, Bool.false_eq_true, and_self, Nat.add_zero]
        refine awake _ ?_
        try simp only [or_false, false_or, Bool.and_self, Bool.and_true, Bool.true_and, Bool.and_false, Bool.false_and, Bool.not_not, Int.cast_ofNat_Int, beq_self_eq_true, Heap.set_same, Heap.set_set, Heap.kill_kset, Int.toNat_natCast, Int.natCast_nonneg, Int.ofNat_lt, Int.ofNat_le, Int.natCast_inj, pmC, pmE, pmS, pmV, pmK, pmQ, pmL, pmX, pmF, pmO, pmA, pmR, pmW, pmB, Option.isSome_some, ft, olds_ints, olds_bools, ↓reduceIte, Nat.reduceEqDiff, reduceCtorEq, Nat.reduceAdd, Nat.reduceMul, Nat.reduceLeDiff, Nat.reduceLT, Int.reduceLE, Int.reduceLT, Int.reduceEq, Int.reduceToNat, Nat.zero_mul, Nat.zero_add, Nat.mul_one, ne_eq, not_false_eq_true, not_true_eq_false, true_and, and_true, decide_true, decide_false, Bool.not_true, Bool.not_false, Bool.false_eq_true, and_self, Nat.add_zero]
        exact finK_rf k
    · have e3 : mayZ o [p, q] ≠ 0 := by
        obtain ⟨-, a1, a2, a3⟩ := may0 e1
        simpa [mayZ, ob, wrongS, a1, a2, a3] using e2
      rw [cellsP, if_pos e1]
      try simp only [olds_bools, or_false, false_or, Bool.and_self, Bool.and_true, Bool.true_and, Bool.and_false, Bool.false_and, Bool.not_not, Int.cast_ofNat_Int, beq_self_eq_true, Heap.set_same, Heap.set_set, Heap.kill_kset, Int.toNat_natCast, Int.natCast_nonneg, Int.ofNat_lt, Int.ofNat_le, Int.natCast_inj, pmC, pmE, pmS, pmV, pmK, pmQ, pmL, pmX, pmF, pmO, pmA, pmR, pmW, pmB, Option.isSome_some, ft, olds_ints, olds_bools, ↓reduceIte, Nat.reduceEqDiff, reduceCtorEq, Nat.reduceAdd, Nat.reduceMul, Nat.reduceLeDiff, Nat.reduceLT, Int.reduceLE, Int.reduceLT, Int.reduceEq, Int.reduceToNat, Nat.zero_mul, Nat.zero_add, Nat.mul_one, ne_eq, not_false_eq_true, not_true_eq_false, true_and, and_true, decide_true, decide_false, Bool.not_true, Bool.not_false, Bool.false_eq_true, and_self, Nat.add_zero]
      refine Cells _ _ o (by omega) [q] (by simp) _ ?_
      rw [cellsP, if_neg e2]
      try simp only [olds_bools, or_false, false_or, Bool.and_self, Bool.and_true, Bool.true_and, Bool.and_false, Bool.false_and, Bool.not_not, Int.cast_ofNat_Int, beq_self_eq_true, Heap.set_same, Heap.set_set, Heap.kill_kset, Int.toNat_natCast, Int.natCast_nonneg, Int.ofNat_lt, Int.ofNat_le, Int.natCast_inj, pmC, pmE, pmS, pmV, pmK, pmQ, pmL, pmX, pmF, pmO, pmA, pmR, pmW, pmB, Option.isSome_some, ft, olds_ints, olds_bools, ↓reduceIte, Nat.reduceEqDiff, reduceCtorEq, Nat.reduceAdd, Nat.reduceMul, Nat.reduceLeDiff, Nat.reduceLT, Int.reduceLE, Int.reduceLT, Int.reduceEq, Int.reduceToNat, Nat.zero_mul, Nat.zero_add, Nat.mul_one, ne_eq, not_false_eq_true, not_true_eq_false, true_and, and_true, decide_true, decide_false, Bool.not_true, Bool.not_false, Bool.false_eq_true, and_self, Nat.add_zero]
      refine Cells _ _ o (by omega) [p, q] (by simp) _ ?_
      rw [cellsP, if_neg e3]
      have d2 := decide_eq_false e2
      have d3 := decide_eq_false e3
      try simp only [olds_bools, d2, d3, or_false, false_or, Bool.and_self, Bool.and_true, Bool.true_and, Bool.and_false, Bool.false_and, Bool.not_not, Int.cast_ofNat_Int, beq_self_eq_true, Heap.set_same, Heap.set_set, Heap.kill_kset, Int.toNat_natCast, Int.natCast_nonneg, Int.ofNat_lt, Int.ofNat_le, Int.natCast_inj, pmC, pmE, pmS, pmV, pmK, pmQ, pmL, pmX, pmF, pmO, pmA, pmR, pmW, pmB, Option.isSome_some, ft, olds_ints, olds_bools, ↓reduceIte, Nat.reduceEqDiff, reduceCtorEq, Nat.reduceAdd, Nat.reduceMul, Nat.reduceLeDiff, Nat.reduceLT, Int.reduceLE, Int.reduceLT, Int.reduceEq, Int.reduceToNat, Nat.zero_mul, Nat.zero_add, Nat.mul_one, ne_eq, not_false_eq_true, not_true_eq_false, true_and, and_true, decide_true, decide_false, Bool.not_true, Bool.not_false, Bool.false_eq_true, and_self, Nat.add_zero]
      refine awake _ ?_
      try simp only [or_false, false_or, Bool.and_self, Bool.and_true, Bool.true_and, Bool.and_false, Bool.false_and, Bool.not_not, Int.cast_ofNat_Int, beq_self_eq_true, Heap.set_same, Heap.set_set, Heap.kill_kset, Int.toNat_natCast, Int.natCast_nonneg, Int.ofNat_lt, Int.ofNat_le, Int.natCast_inj, pmC, pmE, pmS, pmV, pmK, pmQ, pmL, pmX, pmF, pmO, pmA, pmR, pmW, pmB, Option.isSome_some, ft, olds_ints, olds_bools, ↓reduceIte, Nat.reduceEqDiff, reduceCtorEq, Nat.reduceAdd, Nat.reduceMul, Nat.reduceLeDiff, Nat.reduceLT, Int.reduceLE, Int.reduceLT, Int.reduceEq, Int.reduceToNat, Nat.zero_mul, Nat.zero_add, Nat.mul_one, ne_eq, not_false_eq_true, not_true_eq_false, true_and, and_true, decide_true, decide_false, Bool.not_true, Bool.not_false, Bool.false_eq_true, and_self, Nat.add_zero]
      exact finK_rf k
  · have e3 : mayZ o [p, q] ≠ 0 := by
      intro e
      apply e1
      simp only [mayZ, ob, if_true, wrongS] at e ⊢
      split at e
      · rename_i w; rw [if_pos w]
      · cases e
    rw [cellsP, if_neg e1]
    have d1 := decide_eq_false e1
    have d3 := decide_eq_false e3
    obtain ⟨B, eB, hB, -⟩ := cellsP_is o [q]
    try simp only [olds_bools, or_false, false_or, Bool.and_self, Bool.and_true, Bool.true_and, Bool.and_false, Bool.false_and, Bool.not_not, Int.cast_ofNat_Int, beq_self_eq_true, Heap.set_same, Heap.set_set, Heap.kill_kset, Int.toNat_natCast, Int.natCast_nonneg, Int.ofNat_lt, Int.ofNat_le, Int.natCast_inj, pmC, pmE, pmS, pmV, pmK, pmQ, pmL, pmX, pmF, pmO, pmA, pmR, pmW, pmB, Option.isSome_some, ft, olds_ints, olds_bools, ↓reduceIte, Nat.reduceEqDiff, reduceCtorEq, Nat.reduceAdd, Nat.reduceMul, Nat.reduceLeDiff, Nat.reduceLT, Int.reduceLE, Int.reduceLT, Int.reduceEq, Int.reduceToNat, Nat.zero_mul, Nat.zero_add, Nat.mul_one, ne_eq, not_false_eq_true, not_true_eq_false, true_and, and_true, decide_true, decide_false, Bool.not_true, Bool.not_false, Bool.false_eq_true, and_self, Nat.add_zero]
    refine Cells _ _ o (by omega) [q] (by simp) _ ?_
    rw [hB]
    try simp only [olds_bools, or_false, false_or, Bool.and_self, Bool.and_true, Bool.true_and, Bool.and_false, Bool.false_and, Bool.not_not, Int.cast_ofNat_Int, beq_self_eq_true, Heap.set_same, Heap.set_set, Heap.kill_kset, Int.toNat_natCast, Int.natCast_nonneg, Int.ofNat_lt, Int.ofNat_le, Int.natCast_inj, pmC, pmE, pmS, pmV, pmK, pmQ, pmL, pmX, pmF, pmO, pmA, pmR, pmW, pmB, Option.isSome_some, ft, olds_ints, olds_bools, ↓reduceIte, Nat.reduceEqDiff, reduceCtorEq, Nat.reduceAdd, Nat.reduceMul, Nat.reduceLeDiff, Nat.reduceLT, Int.reduceLE, Int.reduceLT, Int.reduceEq, Int.reduceToNat, Nat.zero_mul, Nat.zero_add, Nat.mul_one, ne_eq, not_false_eq_true, not_true_eq_false, true_and, and_true, decide_true, decide_false, Bool.not_true, Bool.not_false, Bool.false_eq_true, and_self, Nat.add_zero]
    refine Cells _ _ o (by omega) [p, q] (by simp) _ ?_
    rw [cellsP, if_neg e3]
    try simp only [olds_bools, d1, d3, or_false, false_or, Bool.and_self, Bool.and_true, Bool.true_and, Bool.and_false, Bool.false_and, Bool.not_not, Int.cast_ofNat_Int, beq_self_eq_true, Heap.set_same, Heap.set_set, Heap.kill_kset, Int.toNat_natCast, Int.natCast_nonneg, Int.ofNat_lt, Int.ofNat_le, Int.natCast_inj, pmC, pmE, pmS, pmV, pmK, pmQ, pmL, pmX, pmF, pmO, pmA, pmR, pmW, pmB, Option.isSome_some, ft, olds_ints, olds_bools, ↓reduceIte, Nat.reduceEqDiff, reduceCtorEq, Nat.reduceAdd, Nat.reduceMul, Nat.reduceLeDiff, Nat.reduceLT, Int.reduceLE, Int.reduceLT, Int.reduceEq, Int.reduceToNat, Nat.zero_mul, Nat.zero_add, Nat.mul_one, ne_eq, not_false_eq_true, not_true_eq_false, true_and, and_true, decide_true, decide_false, Bool.not_true, Bool.not_false, Bool.false_eq_true, and_self, Nat.add_zero]
    refine awake _ ?_
    try simp only [or_false, false_or, Bool.and_self, Bool.and_true, Bool.true_and, Bool.and_false, Bool.false_and, Bool.not_not, Int.cast_ofNat_Int, beq_self_eq_true, Heap.set_same, Heap.set_set, Heap.kill_kset, Int.toNat_natCast, Int.natCast_nonneg, Int.ofNat_lt, Int.ofNat_le, Int.natCast_inj, pmC, pmE, pmS, pmV, pmK, pmQ, pmL, pmX, pmF, pmO, pmA, pmR, pmW, pmB, Option.isSome_some, ft, olds_ints, olds_bools, ↓reduceIte, Nat.reduceEqDiff, reduceCtorEq, Nat.reduceAdd, Nat.reduceMul, Nat.reduceLeDiff, Nat.reduceLT, Int.reduceLE, Int.reduceLT, Int.reduceEq, Int.reduceToNat, Nat.zero_mul, Nat.zero_add, Nat.mul_one, ne_eq, not_false_eq_true, not_true_eq_false, true_and, and_true, decide_true, decide_false, Bool.not_true, Bool.not_false, Bool.false_eq_true, and_self, Nat.add_zero]
    exact finK_rf k
def kinds_PickBoth : List AKind := [.row [some .i64] 8, .st [some .i64, some .i64], .st [some .i64, some .i64]]
theorem all_PickBoth (pvs : List PV) (h : IsArgs kinds_PickBoth pvs) : CanP Try.prog 5 pvs Heap.nil (fun v _ => v = .bool true) := by
  obtain ⟨p, r, rfl, ⟨rows, hr, hz, hl, rfl⟩, p2, r2, rfl, ⟨cs, rfl, hc⟩, p3, r3, rfl, ⟨cs3, rfl, hc3⟩, rfl⟩ := h
  obtain ⟨x, rfl, hx⟩ := fits_sp _ hc
  obtain ⟨y, rfl, hy⟩ := fits_sp _ hc3
  obtain ⟨o, rfl, ho⟩ := rows_of (fun x => [.int .i64 x]) _ fits_int45 hr
  rw [flat_ints45]
  simp only [List.length_map] at hl hz ⊢
  exact law_PickBoth o (by omega) x y _ rfl
end Go.Proofs.Ythoggjdkabhpkaa
