/-
  What may be picked (pick.may, naskhref45.may), the longest spans (merged, spans).
  Conditions: rows of at most a million.
-/
import Derived.Test.YthoggjdkabhpkaaPk1
import Derived.Test.YthoggjdkabhpkaaSpan2
namespace Go.Proofs.Ythoggjdkabhpkaa
open Go.Pm
set_option maxRecDepth 100000
set_option linter.unusedSimpArgs false
set_option linter.unusedVariables false

theorem HasR (lo hi at_ : Int) (h : Heap) {K : PV → Heap → Prop} (k : K (.bool (decide (lo ≤ at_ ∧ at_ < hi))) h) : CanP Try.prog 28 [.agg [.int .i64 lo, .int .i64 hi], .int .i64 at_] h K := by
  refine e28 rfl ?_
  try simp only [c28, r28_0, r28_1, or_false, false_or, Bool.and_self, Bool.and_true, Bool.true_and, Bool.and_false, Bool.false_and, Bool.not_not, Int.cast_ofNat_Int, beq_self_eq_true, Heap.set_same, Heap.set_set, Heap.kill_kset, Int.toNat_natCast, Int.natCast_nonneg, Int.ofNat_lt, Int.ofNat_le, Int.natCast_inj, pmC, pmE, pmS, pmV, pmK, pmQ, pmL, pmX, pmF, pmO, pmA, pmR, pmW, pmB, Option.isSome_some, ft, olds_ints, olds_bools, ↓reduceIte, Nat.reduceEqDiff, reduceCtorEq, Nat.reduceAdd, Nat.reduceMul, Nat.reduceLeDiff, Nat.reduceLT, Int.reduceLE, Int.reduceLT, Int.reduceEq, Int.reduceToNat, Nat.zero_mul, Nat.zero_add, Nat.mul_one, ne_eq, not_false_eq_true, not_true_eq_false, true_and, and_true, decide_true, decide_false, Bool.not_true, Bool.not_false, Bool.false_eq_true, and_self, Nat.add_zero]
  by_cases h1 : lo ≤ at_
  · try simp only [h1, or_false, false_or, Bool.and_self, Bool.and_true, Bool.true_and, Bool.and_false, Bool.false_and, Bool.not_not, Int.cast_ofNat_Int, beq_self_eq_true, Heap.set_same, Heap.set_set, Heap.kill_kset, Int.toNat_natCast, Int.natCast_nonneg, Int.ofNat_lt, Int.ofNat_le, Int.natCast_inj, pmC, pmE, pmS, pmV, pmK, pmQ, pmL, pmX, pmF, pmO, pmA, pmR, pmW, pmB, Option.isSome_some, ft, olds_ints, olds_bools, ↓reduceIte, Nat.reduceEqDiff, reduceCtorEq, Nat.reduceAdd, Nat.reduceMul, Nat.reduceLeDiff, Nat.reduceLT, Int.reduceLE, Int.reduceLT, Int.reduceEq, Int.reduceToNat, Nat.zero_mul, Nat.zero_add, Nat.mul_one, ne_eq, not_false_eq_true, not_true_eq_false, true_and, and_true, decide_true, decide_false, Bool.not_true, Bool.not_false, Bool.false_eq_true, and_self, Nat.add_zero]
    exact finK_le (Heap.le_refl _) (by simpa [h1] using k)
  · try simp only [h1, or_false, false_or, Bool.and_self, Bool.and_true, Bool.true_and, Bool.and_false, Bool.false_and, Bool.not_not, Int.cast_ofNat_Int, beq_self_eq_true, Heap.set_same, Heap.set_set, Heap.kill_kset, Int.toNat_natCast, Int.natCast_nonneg, Int.ofNat_lt, Int.ofNat_le, Int.natCast_inj, pmC, pmE, pmS, pmV, pmK, pmQ, pmL, pmX, pmF, pmO, pmA, pmR, pmW, pmB, Option.isSome_some, ft, olds_ints, olds_bools, ↓reduceIte, Nat.reduceEqDiff, reduceCtorEq, Nat.reduceAdd, Nat.reduceMul, Nat.reduceLeDiff, Nat.reduceLT, Int.reduceLE, Int.reduceLT, Int.reduceEq, Int.reduceToNat, Nat.zero_mul, Nat.zero_add, Nat.mul_one, ne_eq, not_false_eq_true, not_true_eq_false, true_and, and_true, decide_true, decide_false, Bool.not_true, Bool.not_false, Bool.false_eq_true, and_self, Nat.add_zero]
    exact finK_le (Heap.le_refl _) (by simpa [h1] using k)
/-- What is wrong with an order, and spans. -/
def wrongS (n : Nat) : List (Int × Int) → Int
  | [] => 0
  | p :: l => if (0 ≤ p.1 ∧ p.1 < p.2) ∧ p.2 ≤ (n : Int) then wrongS n l else 1
def mayZ (o : List Int) (l : List (Int × Int)) : Int := if permB o then wrongS o.length l else 13
theorem may (fr fr2 : Bool) (o : List Int) (ho : o.length ≤ 1000000) (l : List (Int × Int)) (hl : l.length ≤ 1000000) (h : Heap) {K : PV → Heap → Prop} (k : K (.int .i64 (mayZ o l)) h) :
    CanP Try.prog 22 [.list fr 1 o.length (o.map (.int .i64)), .list fr2 2 l.length (l.flatMap sp)] h K := by
  refine e22 rfl ?_
  try simp only [c22, r22_0, r22_1, r22_2, r22_3, r22_4, r22_5, r22_6, r22_7, r22_8, r22_9, old_sp, or_false, false_or, Bool.and_self, Bool.and_true, Bool.true_and, Bool.and_false, Bool.false_and, Bool.not_not, Int.cast_ofNat_Int, beq_self_eq_true, Heap.set_same, Heap.set_set, Heap.kill_kset, Int.toNat_natCast, Int.natCast_nonneg, Int.ofNat_lt, Int.ofNat_le, Int.natCast_inj, pmC, pmE, pmS, pmV, pmK, pmQ, pmL, pmX, pmF, pmO, pmA, pmR, pmW, pmB, Option.isSome_some, ft, olds_ints, olds_bools, ↓reduceIte, Nat.reduceEqDiff, reduceCtorEq, Nat.reduceAdd, Nat.reduceMul, Nat.reduceLeDiff, Nat.reduceLT, Int.reduceLE, Int.reduceLT, Int.reduceEq, Int.reduceToNat, Nat.zero_mul, Nat.zero_add, Nat.mul_one, ne_eq, not_false_eq_true, not_true_eq_false, true_and, and_true, decide_true, decide_false, Bool.not_true, Bool.not_false, Bool.false_eq_true, and_self, Nat.add_zero]
  refine Permutes _ o ho _ ?_
  cases hp : permB o
  · try simp only [or_false, false_or, Bool.and_self, Bool.and_true, Bool.true_and, Bool.and_false, Bool.false_and, Bool.not_not, Int.cast_ofNat_Int, beq_self_eq_true, Heap.set_same, Heap.set_set, Heap.kill_kset, Int.toNat_natCast, Int.natCast_nonneg, Int.ofNat_lt, Int.ofNat_le, Int.natCast_inj, pmC, pmE, pmS, pmV, pmK, pmQ, pmL, pmX, pmF, pmO, pmA, pmR, pmW, pmB, Option.isSome_some, ft, olds_ints, olds_bools, ↓reduceIte, Nat.reduceEqDiff, reduceCtorEq, Nat.reduceAdd, Nat.reduceMul, Nat.reduceLeDiff, Nat.reduceLT, Int.reduceLE, Int.reduceLT, Int.reduceEq, Int.reduceToNat, Nat.zero_mul, Nat.zero_add, Nat.mul_one, ne_eq, not_false_eq_true, not_true_eq_false, true_and, and_true, decide_true, decide_false, Bool.not_true, Bool.not_false, Bool.false_eq_true, and_self, Nat.add_zero]
    exact finK_le (Heap.le_refl _) (by simpa [mayZ, hp] using k)
  · try simp only [or_false, false_or, Bool.and_self, Bool.and_true, Bool.true_and, Bool.and_false, Bool.false_and, Bool.not_not, Int.cast_ofNat_Int, beq_self_eq_true, Heap.set_same, Heap.set_set, Heap.kill_kset, Int.toNat_natCast, Int.natCast_nonneg, Int.ofNat_lt, Int.ofNat_le, Int.natCast_inj, pmC, pmE, pmS, pmV, pmK, pmQ, pmL, pmX, pmF, pmO, pmA, pmR, pmW, pmB, Option.isSome_some, ft, olds_ints, olds_bools, ↓reduceIte, Nat.reduceEqDiff, reduceCtorEq, Nat.reduceAdd, Nat.reduceMul, Nat.reduceLeDiff, Nat.reduceLT, Int.reduceLE, Int.reduceLT, Int.reduceEq, Int.reduceToNat, Nat.zero_mul, Nat.zero_add, Nat.mul_one, ne_eq, not_false_eq_true, not_true_eq_false, true_and, and_true, decide_true, decide_false, Bool.not_true, Bool.not_false, Bool.false_eq_true, and_self, Nat.add_zero]
    refine pwp_up l.length (fun i σ h' => h' = h ∧ σ 0 = .list false 1 o.length (o.map (.int .i64)) ∧ σ 10 = .list false 2 l.length (l.flatMap sp) ∧ σ 11 = .int .i64 l.length ∧ σ 12 = .int .i64 i ∧ wrongS o.length l = wrongS o.length (l.drop i)) ?_ ?_
    · exact ⟨rfl, rfl, rfl, rfl, rfl, rfl⟩
    rintro i σ h' K' hi ⟨rfl, s0, s10, s11, s12, hq⟩ next
    try simp only [s0, s10, s11, s12, cdK_dec, or_false, false_or, Bool.and_self, Bool.and_true, Bool.true_and, Bool.and_false, Bool.false_and, Bool.not_not, Int.cast_ofNat_Int, beq_self_eq_true, Heap.set_same, Heap.set_set, Heap.kill_kset, Int.toNat_natCast, Int.natCast_nonneg, Int.ofNat_lt, Int.ofNat_le, Int.natCast_inj, pmC, pmE, pmS, pmV, pmK, pmQ, pmL, pmX, pmF, pmO, pmA, pmR, pmW, pmB, Option.isSome_some, ft, olds_ints, olds_bools, ↓reduceIte, Nat.reduceEqDiff, reduceCtorEq, Nat.reduceAdd, Nat.reduceMul, Nat.reduceLeDiff, Nat.reduceLT, Int.reduceLE, Int.reduceLT, Int.reduceEq, Int.reduceToNat, Nat.zero_mul, Nat.zero_add, Nat.mul_one, ne_eq, not_false_eq_true, not_true_eq_false, true_and, and_true, decide_true, decide_false, Bool.not_true, Bool.not_false, Bool.false_eq_true, and_self, Nat.add_zero]
    refine ⟨fun hlt => ?_, fun hge => ?_⟩
    · have hx := flat_at sp 2 sp_len l hlt
      have hx2 : i * 2 + 2 ≤ (l.flatMap sp).length := by rw [flat_length sp 2 sp_len]; omega
      have hw : IntKind.i64.wrap ((i : Int) + 1) = (i : Int) + 1 := wrap_in (by omega) (by omega)
      rw [drop_getD l hlt] at hq
      generalize l.getD i default = p at *
      try simp only [hx, hx2, hlt, sp, s0, s10, s11, s12, or_false, false_or, Bool.and_self, Bool.and_true, Bool.true_and, Bool.and_false, Bool.false_and, Bool.not_not, Int.cast_ofNat_Int, beq_self_eq_true, Heap.set_same, Heap.set_set, Heap.kill_kset, Int.toNat_natCast, Int.natCast_nonneg, Int.ofNat_lt, Int.ofNat_le, Int.natCast_inj, pmC, pmE, pmS, pmV, pmK, pmQ, pmL, pmX, pmF, pmO, pmA, pmR, pmW, pmB, Option.isSome_some, ft, olds_ints, olds_bools, ↓reduceIte, Nat.reduceEqDiff, reduceCtorEq, Nat.reduceAdd, Nat.reduceMul, Nat.reduceLeDiff, Nat.reduceLT, Int.reduceLE, Int.reduceLT, Int.reduceEq, Int.reduceToNat, Nat.zero_mul, Nat.zero_add, Nat.mul_one, ne_eq, not_false_eq_true, not_true_eq_false, true_and, and_true, decide_true, decide_false, Bool.not_true, Bool.not_false, Bool.false_eq_true, and_self, Nat.add_zero]
      intro b hb
      simp only [Heap.kill_none hb]
      try simp only [or_false, false_or, Bool.and_self, Bool.and_true, Bool.true_and, Bool.and_false, Bool.false_and, Bool.not_not, Int.cast_ofNat_Int, beq_self_eq_true, Heap.set_same, Heap.set_set, Heap.kill_kset, Int.toNat_natCast, Int.natCast_nonneg, Int.ofNat_lt, Int.ofNat_le, Int.natCast_inj, pmC, pmE, pmS, pmV, pmK, pmQ, pmL, pmX, pmF, pmO, pmA, pmR, pmW, pmB, Option.isSome_some, ft, olds_ints, olds_bools, ↓reduceIte, Nat.reduceEqDiff, reduceCtorEq, Nat.reduceAdd, Nat.reduceMul, Nat.reduceLeDiff, Nat.reduceLT, Int.reduceLE, Int.reduceLT, Int.reduceEq, Int.reduceToNat, Nat.zero_mul, Nat.zero_add, Nat.mul_one, ne_eq, not_false_eq_true, not_true_eq_false, true_and, and_true, decide_true, decide_false, Bool.not_true, Bool.not_false, Bool.false_eq_true, and_self, Nat.add_zero]
      refine Right _ _ _ ?_
      by_cases h1 : 0 ≤ p.1 ∧ p.1 < p.2
      · by_cases h2 : p.2 ≤ (o.length : Int)
        · have h2' : ¬ (o.length : Int) < p.2 := by omega
          try simp only [h1, h2', s0, s12, hw, or_false, false_or, Bool.and_self, Bool.and_true, Bool.true_and, Bool.and_false, Bool.false_and, Bool.not_not, Int.cast_ofNat_Int, beq_self_eq_true, Heap.set_same, Heap.set_set, Heap.kill_kset, Int.toNat_natCast, Int.natCast_nonneg, Int.ofNat_lt, Int.ofNat_le, Int.natCast_inj, pmC, pmE, pmS, pmV, pmK, pmQ, pmL, pmX, pmF, pmO, pmA, pmR, pmW, pmB, Option.isSome_some, ft, olds_ints, olds_bools, ↓reduceIte, Nat.reduceEqDiff, reduceCtorEq, Nat.reduceAdd, Nat.reduceMul, Nat.reduceLeDiff, Nat.reduceLT, Int.reduceLE, Int.reduceLT, Int.reduceEq, Int.reduceToNat, Nat.zero_mul, Nat.zero_add, Nat.mul_one, ne_eq, not_false_eq_true, not_true_eq_false, true_and, and_true, decide_true, decide_false, Bool.not_true, Bool.not_false, Bool.false_eq_true, and_self, Nat.add_zero]
          refine next hlt _ _ ?_
          exact ⟨rfl, by simp [put, s0], by simp [put, s10], by simp [put, s11], by simp [put], by rw [hq]; simp [wrongS, h1, h2]⟩
        · have h2' : (o.length : Int) < p.2 := by omega
          try simp only [h1, h2', s0, s12, hw, or_false, false_or, Bool.and_self, Bool.and_true, Bool.true_and, Bool.and_false, Bool.false_and, Bool.not_not, Int.cast_ofNat_Int, beq_self_eq_true, Heap.set_same, Heap.set_set, Heap.kill_kset, Int.toNat_natCast, Int.natCast_nonneg, Int.ofNat_lt, Int.ofNat_le, Int.natCast_inj, pmC, pmE, pmS, pmV, pmK, pmQ, pmL, pmX, pmF, pmO, pmA, pmR, pmW, pmB, Option.isSome_some, ft, olds_ints, olds_bools, ↓reduceIte, Nat.reduceEqDiff, reduceCtorEq, Nat.reduceAdd, Nat.reduceMul, Nat.reduceLeDiff, Nat.reduceLT, Int.reduceLE, Int.reduceLT, Int.reduceEq, Int.reduceToNat, Nat.zero_mul, Nat.zero_add, Nat.mul_one, ne_eq, not_false_eq_true, not_true_eq_false, true_and, and_true, decide_true, decide_false, Bool.not_true, Bool.not_false, Bool.false_eq_true, and_self, Nat.add_zero]
          exact finK_le (Heap.le_refl _) (by simpa [mayZ, hp, hq, wrongS, h1, h2] using k)
      · try simp only [h1, s0, s12, hw, or_false, false_or, Bool.and_self, Bool.and_true, Bool.true_and, Bool.and_false, Bool.false_and, Bool.not_not, Int.cast_ofNat_Int, beq_self_eq_true, Heap.set_same, Heap.set_set, Heap.kill_kset, Int.toNat_natCast, Int.natCast_nonneg, Int.ofNat_lt, Int.ofNat_le, Int.natCast_inj, pmC, pmE, pmS, pmV, pmK, pmQ, pmL, pmX, pmF, pmO, pmA, pmR, pmW, pmB, Option.isSome_some, ft, olds_ints, olds_bools, ↓reduceIte, Nat.reduceEqDiff, reduceCtorEq, Nat.reduceAdd, Nat.reduceMul, Nat.reduceLeDiff, Nat.reduceLT, Int.reduceLE, Int.reduceLT, Int.reduceEq, Int.reduceToNat, Nat.zero_mul, Nat.zero_add, Nat.mul_one, ne_eq, not_false_eq_true, not_true_eq_false, true_and, and_true, decide_true, decide_false, Bool.not_true, Bool.not_false, Bool.false_eq_true, and_self, Nat.add_zero]
        exact finK_le (Heap.le_refl _) (by simpa [mayZ, hp, hq, wrongS, h1] using k)
    · exact finK_le (Heap.le_refl _) (by simpa [mayZ, hp, hq, wrongS, List.drop_eq_nil_of_le (Nat.le_of_not_lt hge)] using k)
theorem mayR (fr : Bool) (o : List Int) (ho : o.length ≤ 1000000) (p : Int × Int) (h : Heap) {K : PV → Heap → Prop} (k : K (.int .i64 (mayZ o [p])) h) :
    CanP Try.prog 27 [.list fr 1 o.length (o.map (.int .i64)), .agg [.int .i64 p.1, .int .i64 p.2]] h K := by
  refine e27 rfl ?_
  try simp only [c27, r27_0, r27_1, r27_2, r27_3, r27_4, r27_5, or_false, false_or, Bool.and_self, Bool.and_true, Bool.true_and, Bool.and_false, Bool.false_and, Bool.not_not, Int.cast_ofNat_Int, beq_self_eq_true, Heap.set_same, Heap.set_set, Heap.kill_kset, Int.toNat_natCast, Int.natCast_nonneg, Int.ofNat_lt, Int.ofNat_le, Int.natCast_inj, pmC, pmE, pmS, pmV, pmK, pmQ, pmL, pmX, pmF, pmO, pmA, pmR, pmW, pmB, Option.isSome_some, ft, olds_ints, olds_bools, ↓reduceIte, Nat.reduceEqDiff, reduceCtorEq, Nat.reduceAdd, Nat.reduceMul, Nat.reduceLeDiff, Nat.reduceLT, Int.reduceLE, Int.reduceLT, Int.reduceEq, Int.reduceToNat, Nat.zero_mul, Nat.zero_add, Nat.mul_one, ne_eq, not_false_eq_true, not_true_eq_false, true_and, and_true, decide_true, decide_false, Bool.not_true, Bool.not_false, Bool.false_eq_true, and_self, Nat.add_zero]
  refine PermutesR _ o ho _ ?_
  cases hp : permB o
  · try simp only [or_false, false_or, Bool.and_self, Bool.and_true, Bool.true_and, Bool.and_false, Bool.false_and, Bool.not_not, Int.cast_ofNat_Int, beq_self_eq_true, Heap.set_same, Heap.set_set, Heap.kill_kset, Int.toNat_natCast, Int.natCast_nonneg, Int.ofNat_lt, Int.ofNat_le, Int.natCast_inj, pmC, pmE, pmS, pmV, pmK, pmQ, pmL, pmX, pmF, pmO, pmA, pmR, pmW, pmB, Option.isSome_some, ft, olds_ints, olds_bools, ↓reduceIte, Nat.reduceEqDiff, reduceCtorEq, Nat.reduceAdd, Nat.reduceMul, Nat.reduceLeDiff, Nat.reduceLT, Int.reduceLE, Int.reduceLT, Int.reduceEq, Int.reduceToNat, Nat.zero_mul, Nat.zero_add, Nat.mul_one, ne_eq, not_false_eq_true, not_true_eq_false, true_and, and_true, decide_true, decide_false, Bool.not_true, Bool.not_false, Bool.false_eq_true, and_self, Nat.add_zero]
    exact finK_le (Heap.le_refl _) (by simpa [mayZ, hp] using k)
  · try simp only [or_false, false_or, Bool.and_self, Bool.and_true, Bool.true_and, Bool.and_false, Bool.false_and, Bool.not_not, Int.cast_ofNat_Int, beq_self_eq_true, Heap.set_same, Heap.set_set, Heap.kill_kset, Int.toNat_natCast, Int.natCast_nonneg, Int.ofNat_lt, Int.ofNat_le, Int.natCast_inj, pmC, pmE, pmS, pmV, pmK, pmQ, pmL, pmX, pmF, pmO, pmA, pmR, pmW, pmB, Option.isSome_some, ft, olds_ints, olds_bools, ↓reduceIte, Nat.reduceEqDiff, reduceCtorEq, Nat.reduceAdd, Nat.reduceMul, Nat.reduceLeDiff, Nat.reduceLT, Int.reduceLE, Int.reduceLT, Int.reduceEq, Int.reduceToNat, Nat.zero_mul, Nat.zero_add, Nat.mul_one, ne_eq, not_false_eq_true, not_true_eq_false, true_and, and_true, decide_true, decide_false, Bool.not_true, Bool.not_false, Bool.false_eq_true, and_self, Nat.add_zero]
    refine RightR _ _ _ ?_
    by_cases h1 : 0 ≤ p.1 ∧ p.1 < p.2
    · by_cases h2 : p.2 ≤ (o.length : Int)
      · have h2' : ¬ (o.length : Int) < p.2 := by omega
        try simp only [h1, h2', or_false, false_or, Bool.and_self, Bool.and_true, Bool.true_and, Bool.and_false, Bool.false_and, Bool.not_not, Int.cast_ofNat_Int, beq_self_eq_true, Heap.set_same, Heap.set_set, Heap.kill_kset, Int.toNat_natCast, Int.natCast_nonneg, Int.ofNat_lt, Int.ofNat_le, Int.natCast_inj, pmC, pmE, pmS, pmV, pmK, pmQ, pmL, pmX, pmF, pmO, pmA, pmR, pmW, pmB, Option.isSome_some, ft, olds_ints, olds_bools, ↓reduceIte, Nat.reduceEqDiff, reduceCtorEq, Nat.reduceAdd, Nat.reduceMul, Nat.reduceLeDiff, Nat.reduceLT, Int.reduceLE, Int.reduceLT, Int.reduceEq, Int.reduceToNat, Nat.zero_mul, Nat.zero_add, Nat.mul_one, ne_eq, not_false_eq_true, not_true_eq_false, true_and, and_true, decide_true, decide_false, Bool.not_true, Bool.not_false, Bool.false_eq_true, and_self, Nat.add_zero]
        exact finK_le (Heap.le_refl _) (by simpa [mayZ, hp, wrongS, h1, h2] using k)
      · have h2' : (o.length : Int) < p.2 := by omega
        try simp only [h1, h2', or_false, false_or, Bool.and_self, Bool.and_true, Bool.true_and, Bool.and_false, Bool.false_and, Bool.not_not, Int.cast_ofNat_Int, beq_self_eq_true, Heap.set_same, Heap.set_set, Heap.kill_kset, Int.toNat_natCast, Int.natCast_nonneg, Int.ofNat_lt, Int.ofNat_le, Int.natCast_inj, pmC, pmE, pmS, pmV, pmK, pmQ, pmL, pmX, pmF, pmO, pmA, pmR, pmW, pmB, Option.isSome_some, ft, olds_ints, olds_bools, ↓reduceIte, Nat.reduceEqDiff, reduceCtorEq, Nat.reduceAdd, Nat.reduceMul, Nat.reduceLeDiff, Nat.reduceLT, Int.reduceLE, Int.reduceLT, Int.reduceEq, Int.reduceToNat, Nat.zero_mul, Nat.zero_add, Nat.mul_one, ne_eq, not_false_eq_true, not_true_eq_false, true_and, and_true, decide_true, decide_false, Bool.not_true, Bool.not_false, Bool.false_eq_true, and_self, Nat.add_zero]
        exact finK_le (Heap.le_refl _) (by simpa [mayZ, hp, wrongS, h1, h2] using k)
    · try simp only [h1, or_false, false_or, Bool.and_self, Bool.and_true, Bool.true_and, Bool.and_false, Bool.false_and, Bool.not_not, Int.cast_ofNat_Int, beq_self_eq_true, Heap.set_same, Heap.set_set, Heap.kill_kset, Int.toNat_natCast, Int.natCast_nonneg, Int.ofNat_lt, Int.ofNat_le, Int.natCast_inj, pmC, pmE, pmS, pmV, pmK, pmQ, pmL, pmX, pmF, pmO, pmA, pmR, pmW, pmB, Option.isSome_some, ft, olds_ints, olds_bools, ↓reduceIte, Nat.reduceEqDiff, reduceCtorEq, Nat.reduceAdd, Nat.reduceMul, Nat.reduceLeDiff, Nat.reduceLT, Int.reduceLE, Int.reduceLT, Int.reduceEq, Int.reduceToNat, Nat.zero_mul, Nat.zero_add, Nat.mul_one, ne_eq, not_false_eq_true, not_true_eq_false, true_and, and_true, decide_true, decide_false, Bool.not_true, Bool.not_false, Bool.false_eq_true, and_self, Nat.add_zero]
      exact finK_le (Heap.le_refl _) (by simpa [mayZ, hp, wrongS, h1] using k)
/-! ### The longest spans -/
/-- The last one ends further on. -/
def upL : List (Int × Int) → Int → List (Int × Int)
  | [], _ => []
  | [p], z => [(p.1, z)]
  | p :: l, z => p :: upL l z
theorem upL_app : ∀ (l : List (Int × Int)) (p : Int × Int) (z : Int), upL (l ++ [p]) z = l ++ [(p.1, z)]
  | [], p, z => rfl
  | [a], p, z => rfl
  | a :: b :: l, p, z => by
    have := upL_app (b :: l) p z
    simp only [List.cons_append] at this ⊢
    rw [upL, this]
    simp
theorem last_cut {α : Type} (l : List α) (h : l ≠ []) : ∃ l' p, l = l' ++ [p] := ⟨l.dropLast, l.getLast h, (List.dropLast_concat_getLast h).symm⟩
theorem wr_two (A : List PV) (x y z : PV) : wr (A ++ [x, y]) (A.length + 1) [z] = A ++ [x, z] := by
  unfold wr
  rw [List.take_append, List.drop_append, List.take_of_length_le (by omega), List.drop_eq_nil_of_le (by simp; omega)]
  simp [show A.length + 1 - A.length = 1 by omega, show A.length + 1 + 1 - A.length = 2 by omega]
theorem wr_last (l : List (Int × Int)) (p : Int × Int) (z : Int) : wr ((l ++ [p]).flatMap sp) (l.length * 2 + 1) [.int .i64 z] = (l ++ [(p.1, z)]).flatMap sp := by
  have e : (l.flatMap sp).length = l.length * 2 := flat_length sp 2 sp_len l
  simp only [List.flatMap_append, List.flatMap_cons, List.flatMap_nil, List.append_nil, sp]
  rw [← e]
  exact wr_two _ _ _ _
/-- One more number: the last span ends one further on, or a new one. -/
def mrg1 (L : List (Int × Int)) (n : Int) : List (Int × Int) := if L ≠ [] ∧ (L.getD (L.length - 1) default).2 = n then upL L (n + 1) else L ++ [(n, n + 1)]
def mrg (X : List Int) : Nat → List (Int × Int)
  | 0 => []
  | i + 1 => mrg1 (mrg X i) (X.getD i default)
theorem mrg1_len (L : List (Int × Int)) (n : Int) : (mrg1 L n).length ≤ L.length + 1 := by
  unfold mrg1
  split
  · rename_i h
    obtain ⟨L', q, rfl⟩ := last_cut L h.1
    rw [upL_app]; simp
  · simp
theorem mrg_len (X : List Int) : ∀ i, (mrg X i).length ≤ i
  | 0 => by simp [mrg]
  | i + 1 => by
    have := mrg1_len (mrg X i) (X.getD i default)
    have := mrg_len X i
    rw [mrg]; omega
def mergedT (X : List Int) : List (Int × Int) := mrg X X.length
theorem mergedNil (h : Heap) {K : PV → Heap → Prop} (k : K (.list true 2 0 []) h) : CanP Try.prog 23 [.nils] h K := by
  refine e23 rfl ?_
  try simp only [c23, r23_0, r23_1, r23_2, r23_3, r23_4, r23_5, r23_6, r23_7, r23_8, r23_9, r23_10, or_false, false_or, Bool.and_self, Bool.and_true, Bool.true_and, Bool.and_false, Bool.false_and, Bool.not_not, Int.cast_ofNat_Int, beq_self_eq_true, Heap.set_same, Heap.set_set, Heap.kill_kset, Int.toNat_natCast, Int.natCast_nonneg, Int.ofNat_lt, Int.ofNat_le, Int.natCast_inj, pmC, pmE, pmS, pmV, pmK, pmQ, pmL, pmX, pmF, pmO, pmA, pmR, pmW, pmB, Option.isSome_some, ft, olds_ints, olds_bools, ↓reduceIte, Nat.reduceEqDiff, reduceCtorEq, Nat.reduceAdd, Nat.reduceMul, Nat.reduceLeDiff, Nat.reduceLT, Int.reduceLE, Int.reduceLT, Int.reduceEq, Int.reduceToNat, Nat.zero_mul, Nat.zero_add, Nat.mul_one, ne_eq, not_false_eq_true, not_true_eq_false, true_and, and_true, decide_true, decide_false, Bool.not_true, Bool.not_false, Bool.false_eq_true, and_self, Nat.add_zero]
  refine pwp_up 0 (fun i σ h' => h' = h ∧ σ 3 = .nils ∧ σ 7 = .nils ∧ σ 8 = .int .i64 0 ∧ σ 9 = .int .i64 0) ?_ ?_
  · exact ⟨rfl, rfl, rfl, rfl, rfl⟩
  rintro i σ h' K' hi ⟨rfl, s3, s7, s8, s9⟩ next
  try simp only [s3, s7, s8, s9, or_false, false_or, Bool.and_self, Bool.and_true, Bool.true_and, Bool.and_false, Bool.false_and, Bool.not_not, Int.cast_ofNat_Int, beq_self_eq_true, Heap.set_same, Heap.set_set, Heap.kill_kset, Int.toNat_natCast, Int.natCast_nonneg, Int.ofNat_lt, Int.ofNat_le, Int.natCast_inj, pmC, pmE, pmS, pmV, pmK, pmQ, pmL, pmX, pmF, pmO, pmA, pmR, pmW, pmB, Option.isSome_some, ft, olds_ints, olds_bools, ↓reduceIte, Nat.reduceEqDiff, reduceCtorEq, Nat.reduceAdd, Nat.reduceMul, Nat.reduceLeDiff, Nat.reduceLT, Int.reduceLE, Int.reduceLT, Int.reduceEq, Int.reduceToNat, Nat.zero_mul, Nat.zero_add, Nat.mul_one, ne_eq, not_false_eq_true, not_true_eq_false, true_and, and_true, decide_true, decide_false, Bool.not_true, Bool.not_false, Bool.false_eq_true, and_self, Nat.add_zero]
  exact (Acc.nil _ _ 2).fin (Heap.le_refl _) (by simpa [olds] using k)
theorem merged (fr : Bool) (X : List Int) (hl : X.length ≤ 1000000) (hX : ∀ x ∈ X, 0 ≤ x ∧ x ≤ 1000000) (h : Heap) {K : PV → Heap → Prop} (k : K (.list true 2 (mergedT X).length ((mergedT X).flatMap sp)) h) :
    CanP Try.prog 23 [.list fr 1 X.length (X.map (.int .i64))] h K := by
  refine e23 rfl ?_
  try simp only [c23, r23_0, r23_1, r23_2, r23_3, r23_4, r23_5, r23_6, r23_7, r23_8, r23_9, r23_10, or_false, false_or, Bool.and_self, Bool.and_true, Bool.true_and, Bool.and_false, Bool.false_and, Bool.not_not, Int.cast_ofNat_Int, beq_self_eq_true, Heap.set_same, Heap.set_set, Heap.kill_kset, Int.toNat_natCast, Int.natCast_nonneg, Int.ofNat_lt, Int.ofNat_le, Int.natCast_inj, pmC, pmE, pmS, pmV, pmK, pmQ, pmL, pmX, pmF, pmO, pmA, pmR, pmW, pmB, Option.isSome_some, ft, olds_ints, olds_bools, ↓reduceIte, Nat.reduceEqDiff, reduceCtorEq, Nat.reduceAdd, Nat.reduceMul, Nat.reduceLeDiff, Nat.reduceLT, Int.reduceLE, Int.reduceLT, Int.reduceEq, Int.reduceToNat, Nat.zero_mul, Nat.zero_add, Nat.mul_one, ne_eq, not_false_eq_true, not_true_eq_false, true_and, and_true, decide_true, decide_false, Bool.not_true, Bool.not_false, Bool.false_eq_true, and_self, Nat.add_zero]
  refine pwp_up X.length (fun i σ h' => Acc h h' (σ 3) 2 (mrg X i).length ((mrg X i).flatMap sp) ∧ h.le h' ∧ σ 7 = .list false 1 X.length (X.map (.int .i64)) ∧ σ 8 = .int .i64 X.length ∧ σ 9 = .int .i64 i) ?_ ?_
  · exact ⟨Acc.nil _ _ _, Heap.le_refl _, rfl, rfl, rfl⟩
  rintro i σ h' K' hi ⟨a, lh, s7, s8, s9⟩ next
  rcases Nat.lt_or_ge i X.length with hlt | hge
  · have hw : IntKind.i64.wrap ((i : Int) + 1) = (i : Int) + 1 := wrap_in (by omega) (by omega)
    have hx := getm (PV.int .i64) X (i := i) (by omega)
    have hc := hX _ (get_mem X hlt)
    have hcl := mrg_len X i
    have hcn : mrg X (i + 1) = mrg1 (mrg X i) (X.getD i default) := rfl
    generalize X.getD i default = c at *
    generalize mrg X i = L at *
    have hwc : IntKind.i64.wrap (c + 1) = c + 1 := wrap_in (by omega) (by omega)
    have add9 : ∀ (K4 : Kt), (∀ v' h4, Acc h h4 v' 2 (L ++ [(c, c + 1)]).length ((L ++ [(c, c + 1)]).flatMap sp) → h.le h4 → K4 v' h4) → ap2K (some (1, [.int .i64 c, .int .i64 (c + 1)])) 2 16 (σ 3) K4 h' := by
      intro K4 k4
      refine a.app lh (by decide) rfl (by omega) (by simp only [maxLen]; omega) fun v' h4 a4 l4 sd => ?_
      refine k4 v' h4 ?_ l4
      rw [List.length_append, List.flatMap_append]
      simpa [sp] using a4
    have fin9 : ∀ (σ' : Sl) (h4 : Heap), Acc h h4 (σ' 3) 2 (mrg X (i + 1)).length ((mrg X (i + 1)).flatMap sp) → h.le h4 → σ' 7 = σ 7 → σ' 8 = σ 8 → σ' 9 = .int .i64 ((i : Int) + 1) → K' σ' h4 := fun σ' h4 a4 l4 q7 q8 q9 =>
      next hlt _ _ ⟨a4, l4, by rw [q7, s7], by rw [q8, s8], by rw [q9]; rfl⟩
    have hlk : ∀ (K : Kt) (h : Heap), lenK (some 1) (σ 3) K h = K (.int .i64 L.length) h := fun K h => by
      rcases a with ⟨e, e2, _⟩ | ⟨b, e, _⟩
      · rw [e, e2]; try simp only [or_false, false_or, Bool.and_self, Bool.and_true, Bool.true_and, Bool.and_false, Bool.false_and, Bool.not_not, Int.cast_ofNat_Int, beq_self_eq_true, Heap.set_same, Heap.set_set, Heap.kill_kset, Int.toNat_natCast, Int.natCast_nonneg, Int.ofNat_lt, Int.ofNat_le, Int.natCast_inj, pmC, pmE, pmS, pmV, pmK, pmQ, pmL, pmX, pmF, pmO, pmA, pmR, pmW, pmB, Option.isSome_some, ft, olds_ints, olds_bools, ↓reduceIte, Nat.reduceEqDiff, reduceCtorEq, Nat.reduceAdd, Nat.reduceMul, Nat.reduceLeDiff, Nat.reduceLT, Int.reduceLE, Int.reduceLT, Int.reduceEq, Int.reduceToNat, Nat.zero_mul, Nat.zero_add, Nat.mul_one, ne_eq, not_false_eq_true, not_true_eq_false, true_and, and_true, decide_true, decide_false, Bool.not_true, Bool.not_false, Bool.false_eq_true, and_self, Nat.add_zero]
      · rw [e]; try simp only [or_false, false_or, Bool.and_self, Bool.and_true, Bool.true_and, Bool.and_false, Bool.false_and, Bool.not_not, Int.cast_ofNat_Int, beq_self_eq_true, Heap.set_same, Heap.set_set, Heap.kill_kset, Int.toNat_natCast, Int.natCast_nonneg, Int.ofNat_lt, Int.ofNat_le, Int.natCast_inj, pmC, pmE, pmS, pmV, pmK, pmQ, pmL, pmX, pmF, pmO, pmA, pmR, pmW, pmB, Option.isSome_some, ft, olds_ints, olds_bools, ↓reduceIte, Nat.reduceEqDiff, reduceCtorEq, Nat.reduceAdd, Nat.reduceMul, Nat.reduceLeDiff, Nat.reduceLT, Int.reduceLE, Int.reduceLT, Int.reduceEq, Int.reduceToNat, Nat.zero_mul, Nat.zero_add, Nat.mul_one, ne_eq, not_false_eq_true, not_true_eq_false, true_and, and_true, decide_true, decide_false, Bool.not_true, Bool.not_false, Bool.false_eq_true, and_self, Nat.add_zero]
    by_cases hL : L = []
    · subst hL
      have hw0 : IntKind.i64.wrap ((0 : Int) - 1) = -1 := by decide
      have hcn' : mrg X (i + 1) = [] ++ [(c, c + 1)] := by rw [hcn]; simp [mrg1]
      have hlk' : ∀ (K : Kt) (h : Heap), lenK (some 1) (σ 3) K h = K (.int .i64 0) h := hlk
      try simp only [s7, s8, s9, hlt, hx, hw, hlk', hw0, hwc, or_false, false_or, Bool.and_self, Bool.and_true, Bool.true_and, Bool.and_false, Bool.false_and, Bool.not_not, Int.cast_ofNat_Int, beq_self_eq_true, Heap.set_same, Heap.set_set, Heap.kill_kset, Int.toNat_natCast, Int.natCast_nonneg, Int.ofNat_lt, Int.ofNat_le, Int.natCast_inj, pmC, pmE, pmS, pmV, pmK, pmQ, pmL, pmX, pmF, pmO, pmA, pmR, pmW, pmB, Option.isSome_some, ft, olds_ints, olds_bools, ↓reduceIte, Nat.reduceEqDiff, reduceCtorEq, Nat.reduceAdd, Nat.reduceMul, Nat.reduceLeDiff, Nat.reduceLT, Int.reduceLE, Int.reduceLT, Int.reduceEq, Int.reduceToNat, Nat.zero_mul, Nat.zero_add, Nat.mul_one, ne_eq, not_false_eq_true, not_true_eq_false, true_and, and_true, decide_true, decide_false, Bool.not_true, Bool.not_false, Bool.false_eq_true, and_self, Nat.add_zero]
      refine add9 _ fun v' h4 a4 l4 => ?_
      try simp only [s9, hw, or_false, false_or, Bool.and_self, Bool.and_true, Bool.true_and, Bool.and_false, Bool.false_and, Bool.not_not, Int.cast_ofNat_Int, beq_self_eq_true, Heap.set_same, Heap.set_set, Heap.kill_kset, Int.toNat_natCast, Int.natCast_nonneg, Int.ofNat_lt, Int.ofNat_le, Int.natCast_inj, pmC, pmE, pmS, pmV, pmK, pmQ, pmL, pmX, pmF, pmO, pmA, pmR, pmW, pmB, Option.isSome_some, ft, olds_ints, olds_bools, ↓reduceIte, Nat.reduceEqDiff, reduceCtorEq, Nat.reduceAdd, Nat.reduceMul, Nat.reduceLeDiff, Nat.reduceLT, Int.reduceLE, Int.reduceLT, Int.reduceEq, Int.reduceToNat, Nat.zero_mul, Nat.zero_add, Nat.mul_one, ne_eq, not_false_eq_true, not_true_eq_false, true_and, and_true, decide_true, decide_false, Bool.not_true, Bool.not_false, Bool.false_eq_true, and_self, Nat.add_zero]
      exact fin9 _ _ (by rw [hcn']; simpa [put] using a4) l4 (by simp [put]) (by simp [put]) (by simp [put])
    · obtain ⟨L', q, rfl⟩ := last_cut L hL
      obtain ⟨b, s3, hn, hb, hbl⟩ := a.resolve_left fun e => hL (List.eq_nil_of_length_eq_zero e.2.1)
      have hlen : (L' ++ [q]).length = L'.length + 1 := by simp
      have hg : ((L' ++ [q]).getD ((L' ++ [q]).length - 1) default) = q := by rw [hlen]; simp [List.getD]
      have hw1 : IntKind.i64.wrap (((L'.length + 1 : Nat) : Int) - 1) = (L'.length : Int) := by rw [wrap_in (by omega) (by omega)]; omega
      have hcn2 : mrg X (i + 1) = if q.2 = c then L' ++ [(q.1, c + 1)] else (L' ++ [q]) ++ [(c, c + 1)] := by
        rw [hcn, mrg1, hg, upL_app]; simp
      rw [hlen] at s3 hcl
      have hll : L'.length < L'.length + 1 := by omega
      have hle : L'.length * 2 + 1 < ((L' ++ [q]).flatMap sp).length := by rw [flat_length sp 2 sp_len, hlen]; omega
      have hq : ((L' ++ [q]).flatMap sp)[L'.length * 2 + 1]? = some (.int .i64 q.2) := by
        have := flat_get sp 2 sp_len (L' ++ [q]) (i := L'.length) (by omega) (j := 1) (by omega)
        rw [this]
        simp [List.getD, sp]
      by_cases hm : q.2 = c
      · rw [if_pos hm] at hcn2
        have hwq : IntKind.i64.wrap (q.2 + 1) = c + 1 := by rw [hm, hwc]
        have hd : decide (q.2 = c) = true := decide_eq_true hm
        try simp only [s3, s7, s8, s9, hlt, hx, hw, hw1, hb, hll, hle, hq, hm, hwq, hd, hwc, or_false, false_or, Bool.and_self, Bool.and_true, Bool.true_and, Bool.and_false, Bool.false_and, Bool.not_not, Int.cast_ofNat_Int, beq_self_eq_true, Heap.set_same, Heap.set_set, Heap.kill_kset, Int.toNat_natCast, Int.natCast_nonneg, Int.ofNat_lt, Int.ofNat_le, Int.natCast_inj, pmC, pmE, pmS, pmV, pmK, pmQ, pmL, pmX, pmF, pmO, pmA, pmR, pmW, pmB, Option.isSome_some, ft, olds_ints, olds_bools, ↓reduceIte, Nat.reduceEqDiff, reduceCtorEq, Nat.reduceAdd, Nat.reduceMul, Nat.reduceLeDiff, Nat.reduceLT, Int.reduceLE, Int.reduceLT, Int.reduceEq, Int.reduceToNat, Nat.zero_mul, Nat.zero_add, Nat.mul_one, ne_eq, not_false_eq_true, not_true_eq_false, true_and, and_true, decide_true, decide_false, Bool.not_true, Bool.not_false, Bool.false_eq_true, and_self, Nat.add_zero]
        refine ⟨by omega, fin9 _ _ ?_ (Heap.le_set lh hn) (by simp [put]) (by simp [put]) (by simp [put])⟩
        rw [hcn2, wr_last]
        have e7 : (L' ++ [(q.1, c + 1)]).length = L'.length + 1 := by simp
        rw [e7]
        simp only [put, reduceCtorEq, Nat.reduceEqDiff, if_false]
        rw [s3]
        exact Acc.buf hn (Heap.set_same _ _ _) (by rw [flat_length sp 2 sp_len, e7])
      · rw [if_neg hm] at hcn2
        have hd : decide (q.2 = c) = false := decide_eq_false hm
        rw [hlen] at hlk
        try simp only [s3, s7, s8, s9, hlt, hx, hw, hlk, hw1, hb, hll, hle, hq, hm, hd, hwc, or_false, false_or, Bool.and_self, Bool.and_true, Bool.true_and, Bool.and_false, Bool.false_and, Bool.not_not, Int.cast_ofNat_Int, beq_self_eq_true, Heap.set_same, Heap.set_set, Heap.kill_kset, Int.toNat_natCast, Int.natCast_nonneg, Int.ofNat_lt, Int.ofNat_le, Int.natCast_inj, pmC, pmE, pmS, pmV, pmK, pmQ, pmL, pmX, pmF, pmO, pmA, pmR, pmW, pmB, Option.isSome_some, ft, olds_ints, olds_bools, ↓reduceIte, Nat.reduceEqDiff, reduceCtorEq, Nat.reduceAdd, Nat.reduceMul, Nat.reduceLeDiff, Nat.reduceLT, Int.reduceLE, Int.reduceLT, Int.reduceEq, Int.reduceToNat, Nat.zero_mul, Nat.zero_add, Nat.mul_one, ne_eq, not_false_eq_true, not_true_eq_false, true_and, and_true, decide_true, decide_false, Bool.not_true, Bool.not_false, Bool.false_eq_true, and_self, Nat.add_zero]
        have hfl : ((L' ++ [q]).flatMap sp).length = (L'.length + 1) * 2 := by rw [flat_length sp 2 sp_len, hlen]
        refine ⟨by omega, by simp only [maxLen]; omega, by omega, fun b' hb' => ?_⟩
        have hb9 : h.f b' = none := by
          rcases hb' with e | e
          · rw [e]; exact hn
          · exact Heap.le_none lh e
        refine fin9 _ _ ?_ ?_ (by simp [put]) (by simp [put]) (by simp [put])
        · have e9 : ((L' ++ [q]).flatMap sp).take ((L'.length + 1) * 2) = (L' ++ [q]).flatMap sp := List.take_of_length_le (by omega)
          have e8 : mrg X (i + 1) = (L' ++ [q]) ++ [(c, c + 1)] := hcn2
          rw [e9, e8]
          have a4 : Acc h ((h'.kill b).set b' ((L' ++ [q]).flatMap sp ++ [.int .i64 c, .int .i64 (c + 1)])) (.buf b' 2 0 (L'.length + 1 + 1)) 2 (L'.length + 1 + 1) ((L' ++ [q]).flatMap sp ++ [.int .i64 c, .int .i64 (c + 1)]) :=
            Acc.buf hb9 (Heap.set_same _ _ _) (by rw [List.length_append, hfl]; simp; omega)
          simpa [put, sp] using a4
        · exact Heap.le_set (Heap.le_kill lh hn) hb9
  · have e : i = X.length := by omega
    subst e
    have hnl := Nat.lt_irrefl X.length
    try simp only [s8, s9, hnl, or_false, false_or, Bool.and_self, Bool.and_true, Bool.true_and, Bool.and_false, Bool.false_and, Bool.not_not, Int.cast_ofNat_Int, beq_self_eq_true, Heap.set_same, Heap.set_set, Heap.kill_kset, Int.toNat_natCast, Int.natCast_nonneg, Int.ofNat_lt, Int.ofNat_le, Int.natCast_inj, pmC, pmE, pmS, pmV, pmK, pmQ, pmL, pmX, pmF, pmO, pmA, pmR, pmW, pmB, Option.isSome_some, ft, olds_ints, olds_bools, ↓reduceIte, Nat.reduceEqDiff, reduceCtorEq, Nat.reduceAdd, Nat.reduceMul, Nat.reduceLeDiff, Nat.reduceLT, Int.reduceLE, Int.reduceLT, Int.reduceEq, Int.reduceToNat, Nat.zero_mul, Nat.zero_add, Nat.mul_one, ne_eq, not_false_eq_true, not_true_eq_false, true_and, and_true, decide_true, decide_false, Bool.not_true, Bool.not_false, Bool.false_eq_true, and_self, Nat.add_zero]
    refine a.fin lh ?_
    rw [old_sp]; exact k
end Go.Proofs.Ythoggjdkabhpkaa
