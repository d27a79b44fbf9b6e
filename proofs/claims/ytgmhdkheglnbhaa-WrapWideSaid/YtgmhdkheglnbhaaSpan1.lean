/-
  What the functions of the package span, and of its reference, come back with.
  Conditions: none but those that each sentence tells.
-/
import Derived.Test.YtgmhdkheglnbhaaC
import Derived.Test.YtgmhdkheglnbhaaPmQ
namespace Go.Proofs.Ytgmhdkheglnbhaa
open Go.Pm
set_option maxRecDepth 100000
set_option linter.unusedSimpArgs false
set_option linter.unusedVariables false

def sp (p : Int × Int) : List PV := [.int .i64 p.1, .int .i64 p.2]
theorem sp_len (p : Int × Int) : (sp p).length = 2 := rfl
def okSp (p : Int × Int) : Prop := 0 ≤ p.1 ∧ p.1 < p.2
theorem old_sp (l : List (Int × Int)) : olds (l.flatMap sp) = l.flatMap sp := by
  induction l with
  | nil => rfl
  | cons p l ih => rw [List.flatMap_cons, olds_eq, List.map_append, ← olds_eq, ← olds_eq, ih]; rfl

theorem Right (lo hi : Int) (h : Heap) {K : PV → Heap → Prop} (k : K (.bool (decide (0 ≤ lo ∧ lo < hi))) h) : CanP Try.prog 29 [.agg [.int .i64 lo, .int .i64 hi]] h K := by
  refine e29 rfl ?_
  try simp only [c29, r29_0, r29_1, or_false, false_or, Bool.and_self, Bool.and_true, Bool.true_and, Bool.and_false, Bool.false_and, Bool.not_not, Int.cast_ofNat_Int, beq_self_eq_true, Heap.set_same, Heap.set_set, Heap.kill_kset, Int.toNat_natCast, Int.natCast_nonneg, Int.ofNat_lt, Int.ofNat_le, Int.natCast_inj, pmC, pmE, pmS, pmV, pmK, pmQ, pmL, pmX, pmF, pmO, pmA, pmR, pmW, pmB, Option.isSome_some, ft, olds_ints, olds_bools, ↓reduceIte, Nat.reduceEqDiff, reduceCtorEq, Nat.reduceAdd, Nat.reduceMul, Nat.reduceLeDiff, Nat.reduceLT, Int.reduceLE, Int.reduceLT, Int.reduceEq, Int.reduceToNat, Nat.zero_mul, Nat.zero_add, Nat.mul_one, ne_eq, not_false_eq_true, not_true_eq_false, true_and, and_true, decide_true, decide_false, Bool.not_true, Bool.not_false, Bool.false_eq_true, and_self, Nat.add_zero]
  by_cases h1 : 0 ≤ lo
  · try simp only [h1, or_false, false_or, Bool.and_self, Bool.and_true, Bool.true_and, Bool.and_false, Bool.false_and, Bool.not_not, Int.cast_ofNat_Int, beq_self_eq_true, Heap.set_same, Heap.set_set, Heap.kill_kset, Int.toNat_natCast, Int.natCast_nonneg, Int.ofNat_lt, Int.ofNat_le, Int.natCast_inj, pmC, pmE, pmS, pmV, pmK, pmQ, pmL, pmX, pmF, pmO, pmA, pmR, pmW, pmB, Option.isSome_some, ft, olds_ints, olds_bools, ↓reduceIte, Nat.reduceEqDiff, reduceCtorEq, Nat.reduceAdd, Nat.reduceMul, Nat.reduceLeDiff, Nat.reduceLT, Int.reduceLE, Int.reduceLT, Int.reduceEq, Int.reduceToNat, Nat.zero_mul, Nat.zero_add, Nat.mul_one, ne_eq, not_false_eq_true, not_true_eq_false, true_and, and_true, decide_true, decide_false, Bool.not_true, Bool.not_false, Bool.false_eq_true, and_self, Nat.add_zero]
    exact finK_le (Heap.le_refl _) (by simpa [h1] using k)
  · try simp only [h1, or_false, false_or, Bool.and_self, Bool.and_true, Bool.true_and, Bool.and_false, Bool.false_and, Bool.not_not, Int.cast_ofNat_Int, beq_self_eq_true, Heap.set_same, Heap.set_set, Heap.kill_kset, Int.toNat_natCast, Int.natCast_nonneg, Int.ofNat_lt, Int.ofNat_le, Int.natCast_inj, pmC, pmE, pmS, pmV, pmK, pmQ, pmL, pmX, pmF, pmO, pmA, pmR, pmW, pmB, Option.isSome_some, ft, olds_ints, olds_bools, ↓reduceIte, Nat.reduceEqDiff, reduceCtorEq, Nat.reduceAdd, Nat.reduceMul, Nat.reduceLeDiff, Nat.reduceLT, Int.reduceLE, Int.reduceLT, Int.reduceEq, Int.reduceToNat, Nat.zero_mul, Nat.zero_add, Nat.mul_one, ne_eq, not_false_eq_true, not_true_eq_false, true_and, and_true, decide_true, decide_false, Bool.not_true, Bool.not_false, Bool.false_eq_true, and_self, Nat.add_zero]
    exact finK_le (Heap.le_refl _) (by simpa [h1] using k)
theorem RightR (lo hi : Int) (h : Heap) {K : PV → Heap → Prop} (k : K (.bool (decide (0 ≤ lo ∧ lo < hi))) h) : CanP Try.prog 66 [.agg [.int .i64 lo, .int .i64 hi]] h K := by
  refine e66 rfl ?_
  try simp only [c66, r66_0, r66_1, or_false, false_or, Bool.and_self, Bool.and_true, Bool.true_and, Bool.and_false, Bool.false_and, Bool.not_not, Int.cast_ofNat_Int, beq_self_eq_true, Heap.set_same, Heap.set_set, Heap.kill_kset, Int.toNat_natCast, Int.natCast_nonneg, Int.ofNat_lt, Int.ofNat_le, Int.natCast_inj, pmC, pmE, pmS, pmV, pmK, pmQ, pmL, pmX, pmF, pmO, pmA, pmR, pmW, pmB, Option.isSome_some, ft, olds_ints, olds_bools, ↓reduceIte, Nat.reduceEqDiff, reduceCtorEq, Nat.reduceAdd, Nat.reduceMul, Nat.reduceLeDiff, Nat.reduceLT, Int.reduceLE, Int.reduceLT, Int.reduceEq, Int.reduceToNat, Nat.zero_mul, Nat.zero_add, Nat.mul_one, ne_eq, not_false_eq_true, not_true_eq_false, true_and, and_true, decide_true, decide_false, Bool.not_true, Bool.not_false, Bool.false_eq_true, and_self, Nat.add_zero]
  by_cases h1 : 0 ≤ lo
  · try simp only [h1, or_false, false_or, Bool.and_self, Bool.and_true, Bool.true_and, Bool.and_false, Bool.false_and, Bool.not_not, Int.cast_ofNat_Int, beq_self_eq_true, Heap.set_same, Heap.set_set, Heap.kill_kset, Int.toNat_natCast, Int.natCast_nonneg, Int.ofNat_lt, Int.ofNat_le, Int.natCast_inj, pmC, pmE, pmS, pmV, pmK, pmQ, pmL, pmX, pmF, pmO, pmA, pmR, pmW, pmB, Option.isSome_some, ft, olds_ints, olds_bools, ↓reduceIte, Nat.reduceEqDiff, reduceCtorEq, Nat.reduceAdd, Nat.reduceMul, Nat.reduceLeDiff, Nat.reduceLT, Int.reduceLE, Int.reduceLT, Int.reduceEq, Int.reduceToNat, Nat.zero_mul, Nat.zero_add, Nat.mul_one, ne_eq, not_false_eq_true, not_true_eq_false, true_and, and_true, decide_true, decide_false, Bool.not_true, Bool.not_false, Bool.false_eq_true, and_self, Nat.add_zero]
    exact finK_le (Heap.le_refl _) (by simpa [h1] using k)
  · try simp only [h1, or_false, false_or, Bool.and_self, Bool.and_true, Bool.true_and, Bool.and_false, Bool.false_and, Bool.not_not, Int.cast_ofNat_Int, beq_self_eq_true, Heap.set_same, Heap.set_set, Heap.kill_kset, Int.toNat_natCast, Int.natCast_nonneg, Int.ofNat_lt, Int.ofNat_le, Int.natCast_inj, pmC, pmE, pmS, pmV, pmK, pmQ, pmL, pmX, pmF, pmO, pmA, pmR, pmW, pmB, Option.isSome_some, ft, olds_ints, olds_bools, ↓reduceIte, Nat.reduceEqDiff, reduceCtorEq, Nat.reduceAdd, Nat.reduceMul, Nat.reduceLeDiff, Nat.reduceLT, Int.reduceLE, Int.reduceLT, Int.reduceEq, Int.reduceToNat, Nat.zero_mul, Nat.zero_add, Nat.mul_one, ne_eq, not_false_eq_true, not_true_eq_false, true_and, and_true, decide_true, decide_false, Bool.not_true, Bool.not_false, Bool.false_eq_true, and_self, Nat.add_zero]
    exact finK_le (Heap.le_refl _) (by simpa [h1] using k)

/-- Are these the parts from `e` on to `n`? -/
def partsB : Int → List (Int × Int) → Int → Bool
  | e, [], n => decide (e = n)
  | e, p :: l, n => decide (p.1 = e) && (decide (0 ≤ p.1 ∧ p.1 < p.2) && partsB p.2 l n)

theorem Parts (fr : Bool) (l : List (Int × Int)) (n : Int) (hl : l.length ≤ 9223372036854775807) (h : Heap) {K : PV → Heap → Prop} (k : K (.bool (partsB 0 l n)) h) :
    CanP Try.prog 13 [.list fr 2 l.length (l.flatMap sp), .int .i64 n] h K := by
  refine e13 rfl ?_
  try simp only [c13, r13_0, r13_1, r13_2, r13_3, r13_4, r13_5, r13_6, r13_7, r13_8, r13_9, old_sp, or_false, false_or, Bool.and_self, Bool.and_true, Bool.true_and, Bool.and_false, Bool.false_and, Bool.not_not, Int.cast_ofNat_Int, beq_self_eq_true, Heap.set_same, Heap.set_set, Heap.kill_kset, Int.toNat_natCast, Int.natCast_nonneg, Int.ofNat_lt, Int.ofNat_le, Int.natCast_inj, pmC, pmE, pmS, pmV, pmK, pmQ, pmL, pmX, pmF, pmO, pmA, pmR, pmW, pmB, Option.isSome_some, ft, olds_ints, olds_bools, ↓reduceIte, Nat.reduceEqDiff, reduceCtorEq, Nat.reduceAdd, Nat.reduceMul, Nat.reduceLeDiff, Nat.reduceLT, Int.reduceLE, Int.reduceLT, Int.reduceEq, Int.reduceToNat, Nat.zero_mul, Nat.zero_add, Nat.mul_one, ne_eq, not_false_eq_true, not_true_eq_false, true_and, and_true, decide_true, decide_false, Bool.not_true, Bool.not_false, Bool.false_eq_true, and_self, Nat.add_zero]
  refine pwp_up l.length (fun i σ h' => h' = h ∧ ∃ e, σ 1 = .int .i64 n ∧ σ 5 = .int .i64 e ∧ σ 8 = .list false 2 l.length (l.flatMap sp) ∧ σ 9 = .int .i64 l.length ∧ σ 10 = .int .i64 i ∧ partsB 0 l n = partsB e (l.drop i) n) ?_ ?_
  · exact ⟨rfl, 0, rfl, rfl, rfl, rfl, rfl, rfl⟩
  · rintro i σ h' K' hi ⟨rfl, e, s1, s5, s8, s9, s10, hp⟩ next
    try simp only [s1, s5, s8, s9, s10, cdK_dec, or_false, false_or, Bool.and_self, Bool.and_true, Bool.true_and, Bool.and_false, Bool.false_and, Bool.not_not, Int.cast_ofNat_Int, beq_self_eq_true, Heap.set_same, Heap.set_set, Heap.kill_kset, Int.toNat_natCast, Int.natCast_nonneg, Int.ofNat_lt, Int.ofNat_le, Int.natCast_inj, pmC, pmE, pmS, pmV, pmK, pmQ, pmL, pmX, pmF, pmO, pmA, pmR, pmW, pmB, Option.isSome_some, ft, olds_ints, olds_bools, ↓reduceIte, Nat.reduceEqDiff, reduceCtorEq, Nat.reduceAdd, Nat.reduceMul, Nat.reduceLeDiff, Nat.reduceLT, Int.reduceLE, Int.reduceLT, Int.reduceEq, Int.reduceToNat, Nat.zero_mul, Nat.zero_add, Nat.mul_one, ne_eq, not_false_eq_true, not_true_eq_false, true_and, and_true, decide_true, decide_false, Bool.not_true, Bool.not_false, Bool.false_eq_true, and_self, Nat.add_zero]
    refine ⟨fun hlt => ?_, fun hge => ?_⟩
    · have hx := flat_at sp 2 sp_len l hlt
      have hd := drop_getD l hlt
      try simp only [hx, sp, s1, s5, s8, s9, s10, or_false, false_or, Bool.and_self, Bool.and_true, Bool.true_and, Bool.and_false, Bool.false_and, Bool.not_not, Int.cast_ofNat_Int, beq_self_eq_true, Heap.set_same, Heap.set_set, Heap.kill_kset, Int.toNat_natCast, Int.natCast_nonneg, Int.ofNat_lt, Int.ofNat_le, Int.natCast_inj, pmC, pmE, pmS, pmV, pmK, pmQ, pmL, pmX, pmF, pmO, pmA, pmR, pmW, pmB, Option.isSome_some, ft, olds_ints, olds_bools, ↓reduceIte, Nat.reduceEqDiff, reduceCtorEq, Nat.reduceAdd, Nat.reduceMul, Nat.reduceLeDiff, Nat.reduceLT, Int.reduceLE, Int.reduceLT, Int.reduceEq, Int.reduceToNat, Nat.zero_mul, Nat.zero_add, Nat.mul_one, ne_eq, not_false_eq_true, not_true_eq_false, true_and, and_true, decide_true, decide_false, Bool.not_true, Bool.not_false, Bool.false_eq_true, and_self, Nat.add_zero]
      refine ⟨hlt, by rw [flat_length sp 2 sp_len]; omega, fun b hb => ?_⟩
      simp only [Heap.kill_none hb]
      generalize l.getD i default = p at *
      rw [hd] at hp
      by_cases h1 : p.1 = e
      · try simp only [h1, s1, s5, s8, s9, s10, or_false, false_or, Bool.and_self, Bool.and_true, Bool.true_and, Bool.and_false, Bool.false_and, Bool.not_not, Int.cast_ofNat_Int, beq_self_eq_true, Heap.set_same, Heap.set_set, Heap.kill_kset, Int.toNat_natCast, Int.natCast_nonneg, Int.ofNat_lt, Int.ofNat_le, Int.natCast_inj, pmC, pmE, pmS, pmV, pmK, pmQ, pmL, pmX, pmF, pmO, pmA, pmR, pmW, pmB, Option.isSome_some, ft, olds_ints, olds_bools, ↓reduceIte, Nat.reduceEqDiff, reduceCtorEq, Nat.reduceAdd, Nat.reduceMul, Nat.reduceLeDiff, Nat.reduceLT, Int.reduceLE, Int.reduceLT, Int.reduceEq, Int.reduceToNat, Nat.zero_mul, Nat.zero_add, Nat.mul_one, ne_eq, not_false_eq_true, not_true_eq_false, true_and, and_true, decide_true, decide_false, Bool.not_true, Bool.not_false, Bool.false_eq_true, and_self, Nat.add_zero]
        refine Right _ _ _ ?_
        by_cases h2 : 0 ≤ e ∧ e < p.2
        · try simp only [h2, s1, s5, s8, s9, s10, or_false, false_or, Bool.and_self, Bool.and_true, Bool.true_and, Bool.and_false, Bool.false_and, Bool.not_not, Int.cast_ofNat_Int, beq_self_eq_true, Heap.set_same, Heap.set_set, Heap.kill_kset, Int.toNat_natCast, Int.natCast_nonneg, Int.ofNat_lt, Int.ofNat_le, Int.natCast_inj, pmC, pmE, pmS, pmV, pmK, pmQ, pmL, pmX, pmF, pmO, pmA, pmR, pmW, pmB, Option.isSome_some, ft, olds_ints, olds_bools, ↓reduceIte, Nat.reduceEqDiff, reduceCtorEq, Nat.reduceAdd, Nat.reduceMul, Nat.reduceLeDiff, Nat.reduceLT, Int.reduceLE, Int.reduceLT, Int.reduceEq, Int.reduceToNat, Nat.zero_mul, Nat.zero_add, Nat.mul_one, ne_eq, not_false_eq_true, not_true_eq_false, true_and, and_true, decide_true, decide_false, Bool.not_true, Bool.not_false, Bool.false_eq_true, and_self, Nat.add_zero]
          rw [wrap_in (by omega) (by omega)]
          refine next hlt _ _ ⟨rfl, p.2, ?_⟩
          simp [put, s1, s8, s9, hp, partsB, h1, h2]
        · try simp only [h2, s1, s5, s8, s9, s10, or_false, false_or, Bool.and_self, Bool.and_true, Bool.true_and, Bool.and_false, Bool.false_and, Bool.not_not, Int.cast_ofNat_Int, beq_self_eq_true, Heap.set_same, Heap.set_set, Heap.kill_kset, Int.toNat_natCast, Int.natCast_nonneg, Int.ofNat_lt, Int.ofNat_le, Int.natCast_inj, pmC, pmE, pmS, pmV, pmK, pmQ, pmL, pmX, pmF, pmO, pmA, pmR, pmW, pmB, Option.isSome_some, ft, olds_ints, olds_bools, ↓reduceIte, Nat.reduceEqDiff, reduceCtorEq, Nat.reduceAdd, Nat.reduceMul, Nat.reduceLeDiff, Nat.reduceLT, Int.reduceLE, Int.reduceLT, Int.reduceEq, Int.reduceToNat, Nat.zero_mul, Nat.zero_add, Nat.mul_one, ne_eq, not_false_eq_true, not_true_eq_false, true_and, and_true, decide_true, decide_false, Bool.not_true, Bool.not_false, Bool.false_eq_true, and_self, Nat.add_zero]
          exact finK_le (Heap.le_refl _) (by simpa [hp, partsB, h1, h2] using k)
      · try simp only [h1, s1, s5, s8, s9, s10, or_false, false_or, Bool.and_self, Bool.and_true, Bool.true_and, Bool.and_false, Bool.false_and, Bool.not_not, Int.cast_ofNat_Int, beq_self_eq_true, Heap.set_same, Heap.set_set, Heap.kill_kset, Int.toNat_natCast, Int.natCast_nonneg, Int.ofNat_lt, Int.ofNat_le, Int.natCast_inj, pmC, pmE, pmS, pmV, pmK, pmQ, pmL, pmX, pmF, pmO, pmA, pmR, pmW, pmB, Option.isSome_some, ft, olds_ints, olds_bools, ↓reduceIte, Nat.reduceEqDiff, reduceCtorEq, Nat.reduceAdd, Nat.reduceMul, Nat.reduceLeDiff, Nat.reduceLT, Int.reduceLE, Int.reduceLT, Int.reduceEq, Int.reduceToNat, Nat.zero_mul, Nat.zero_add, Nat.mul_one, ne_eq, not_false_eq_true, not_true_eq_false, true_and, and_true, decide_true, decide_false, Bool.not_true, Bool.not_false, Bool.false_eq_true, and_self, Nat.add_zero]
        exact finK_le (Heap.le_refl _) (by simpa [hp, partsB, h1] using k)
    · exact finK_le (Heap.le_refl _) (by simpa [hp, partsB, List.drop_eq_nil_of_le (Nat.le_of_not_lt hge)] using k)
/-- Do places rise within a span? -/
def risesB (hi : Int) : Int → List Int → Bool
  | _, [] => true
  | e, n :: l => !(decide (n ≤ e)) && (!(decide (hi ≤ n)) && risesB hi n l)
theorem rises (fr : Bool) (lo hi : Int) (l : List Int) (hl : l.length ≤ 9223372036854775806) (h : Heap) {K : PV → Heap → Prop} (k : K (.bool (risesB hi lo l)) h) :
    CanP Try.prog 56 [.agg [.int .i64 lo, .int .i64 hi], .list fr 1 l.length (l.map (.int .i64))] h K := by
  refine e56 rfl ?_
  try simp only [c56, r56_0, r56_1, r56_2, r56_3, r56_4, r56_5, r56_6, r56_7, r56_8, r56_9, or_false, false_or, Bool.and_self, Bool.and_true, Bool.true_and, Bool.and_false, Bool.false_and, Bool.not_not, Int.cast_ofNat_Int, beq_self_eq_true, Heap.set_same, Heap.set_set, Heap.kill_kset, Int.toNat_natCast, Int.natCast_nonneg, Int.ofNat_lt, Int.ofNat_le, Int.natCast_inj, pmC, pmE, pmS, pmV, pmK, pmQ, pmL, pmX, pmF, pmO, pmA, pmR, pmW, pmB, Option.isSome_some, ft, olds_ints, olds_bools, ↓reduceIte, Nat.reduceEqDiff, reduceCtorEq, Nat.reduceAdd, Nat.reduceMul, Nat.reduceLeDiff, Nat.reduceLT, Int.reduceLE, Int.reduceLT, Int.reduceEq, Int.reduceToNat, Nat.zero_mul, Nat.zero_add, Nat.mul_one, ne_eq, not_false_eq_true, not_true_eq_false, true_and, and_true, decide_true, decide_false, Bool.not_true, Bool.not_false, Bool.false_eq_true, and_self, Nat.add_zero]
  refine pwp_up l.length (fun i σ h' => h' = h ∧ ∃ e, (∃ fr, σ 2 = .fptr fr [.int .i64 lo, .int .i64 hi] 0) ∧ σ 5 = .int .i64 e ∧ σ 10 = .list false 1 l.length (l.map (.int .i64)) ∧ σ 11 = .int .i64 l.length ∧ σ 12 = .int .i64 i ∧ risesB hi lo l = risesB hi e (l.drop i)) ?_ ?_
  · exact ⟨rfl, lo, ⟨_, rfl⟩, rfl, rfl, rfl, rfl, rfl⟩
  · rintro i σ h' K' hi' ⟨rfl, e, ⟨fr2, s2⟩, s5, s10, s11, s12, hp⟩ next
    try simp only [s2, s5, s10, s11, s12, cdK_dec, or_false, false_or, Bool.and_self, Bool.and_true, Bool.true_and, Bool.and_false, Bool.false_and, Bool.not_not, Int.cast_ofNat_Int, beq_self_eq_true, Heap.set_same, Heap.set_set, Heap.kill_kset, Int.toNat_natCast, Int.natCast_nonneg, Int.ofNat_lt, Int.ofNat_le, Int.natCast_inj, pmC, pmE, pmS, pmV, pmK, pmQ, pmL, pmX, pmF, pmO, pmA, pmR, pmW, pmB, Option.isSome_some, ft, olds_ints, olds_bools, ↓reduceIte, Nat.reduceEqDiff, reduceCtorEq, Nat.reduceAdd, Nat.reduceMul, Nat.reduceLeDiff, Nat.reduceLT, Int.reduceLE, Int.reduceLT, Int.reduceEq, Int.reduceToNat, Nat.zero_mul, Nat.zero_add, Nat.mul_one, ne_eq, not_false_eq_true, not_true_eq_false, true_and, and_true, decide_true, decide_false, Bool.not_true, Bool.not_false, Bool.false_eq_true, and_self, Nat.add_zero]
    refine ⟨fun hlt => ?_, fun hge => ?_⟩
    · have hx := getm (.int .i64) l hlt
      rw [drop_getD l hlt] at hp
      generalize l.getD i default = p at *
      try simp only [hx, hlt, s2, s5, s10, s11, s12, or_false, false_or, Bool.and_self, Bool.and_true, Bool.true_and, Bool.and_false, Bool.false_and, Bool.not_not, Int.cast_ofNat_Int, beq_self_eq_true, Heap.set_same, Heap.set_set, Heap.kill_kset, Int.toNat_natCast, Int.natCast_nonneg, Int.ofNat_lt, Int.ofNat_le, Int.natCast_inj, pmC, pmE, pmS, pmV, pmK, pmQ, pmL, pmX, pmF, pmO, pmA, pmR, pmW, pmB, Option.isSome_some, ft, olds_ints, olds_bools, ↓reduceIte, Nat.reduceEqDiff, reduceCtorEq, Nat.reduceAdd, Nat.reduceMul, Nat.reduceLeDiff, Nat.reduceLT, Int.reduceLE, Int.reduceLT, Int.reduceEq, Int.reduceToNat, Nat.zero_mul, Nat.zero_add, Nat.mul_one, ne_eq, not_false_eq_true, not_true_eq_false, true_and, and_true, decide_true, decide_false, Bool.not_true, Bool.not_false, Bool.false_eq_true, and_self, Nat.add_zero]
      by_cases h1 : p ≤ e
      · try simp only [h1, s2, s5, s10, s11, s12, or_false, false_or, Bool.and_self, Bool.and_true, Bool.true_and, Bool.and_false, Bool.false_and, Bool.not_not, Int.cast_ofNat_Int, beq_self_eq_true, Heap.set_same, Heap.set_set, Heap.kill_kset, Int.toNat_natCast, Int.natCast_nonneg, Int.ofNat_lt, Int.ofNat_le, Int.natCast_inj, pmC, pmE, pmS, pmV, pmK, pmQ, pmL, pmX, pmF, pmO, pmA, pmR, pmW, pmB, Option.isSome_some, ft, olds_ints, olds_bools, ↓reduceIte, Nat.reduceEqDiff, reduceCtorEq, Nat.reduceAdd, Nat.reduceMul, Nat.reduceLeDiff, Nat.reduceLT, Int.reduceLE, Int.reduceLT, Int.reduceEq, Int.reduceToNat, Nat.zero_mul, Nat.zero_add, Nat.mul_one, ne_eq, not_false_eq_true, not_true_eq_false, true_and, and_true, decide_true, decide_false, Bool.not_true, Bool.not_false, Bool.false_eq_true, and_self, Nat.add_zero]
        exact finK_le (Heap.le_refl _) (by simpa [hp, risesB, h1] using k)
      · by_cases h2 : hi ≤ p
        · try simp only [h1, h2, s2, s5, s10, s11, s12, or_false, false_or, Bool.and_self, Bool.and_true, Bool.true_and, Bool.and_false, Bool.false_and, Bool.not_not, Int.cast_ofNat_Int, beq_self_eq_true, Heap.set_same, Heap.set_set, Heap.kill_kset, Int.toNat_natCast, Int.natCast_nonneg, Int.ofNat_lt, Int.ofNat_le, Int.natCast_inj, pmC, pmE, pmS, pmV, pmK, pmQ, pmL, pmX, pmF, pmO, pmA, pmR, pmW, pmB, Option.isSome_some, ft, olds_ints, olds_bools, ↓reduceIte, Nat.reduceEqDiff, reduceCtorEq, Nat.reduceAdd, Nat.reduceMul, Nat.reduceLeDiff, Nat.reduceLT, Int.reduceLE, Int.reduceLT, Int.reduceEq, Int.reduceToNat, Nat.zero_mul, Nat.zero_add, Nat.mul_one, ne_eq, not_false_eq_true, not_true_eq_false, true_and, and_true, decide_true, decide_false, Bool.not_true, Bool.not_false, Bool.false_eq_true, and_self, Nat.add_zero]
          exact finK_le (Heap.le_refl _) (by simpa [hp, risesB, h1, h2] using k)
        · try simp only [h1, h2, s2, s5, s10, s11, s12, or_false, false_or, Bool.and_self, Bool.and_true, Bool.true_and, Bool.and_false, Bool.false_and, Bool.not_not, Int.cast_ofNat_Int, beq_self_eq_true, Heap.set_same, Heap.set_set, Heap.kill_kset, Int.toNat_natCast, Int.natCast_nonneg, Int.ofNat_lt, Int.ofNat_le, Int.natCast_inj, pmC, pmE, pmS, pmV, pmK, pmQ, pmL, pmX, pmF, pmO, pmA, pmR, pmW, pmB, Option.isSome_some, ft, olds_ints, olds_bools, ↓reduceIte, Nat.reduceEqDiff, reduceCtorEq, Nat.reduceAdd, Nat.reduceMul, Nat.reduceLeDiff, Nat.reduceLT, Int.reduceLE, Int.reduceLT, Int.reduceEq, Int.reduceToNat, Nat.zero_mul, Nat.zero_add, Nat.mul_one, ne_eq, not_false_eq_true, not_true_eq_false, true_and, and_true, decide_true, decide_false, Bool.not_true, Bool.not_false, Bool.false_eq_true, and_self, Nat.add_zero]
          rw [wrap_in (by omega) (by omega)]
          refine next hlt _ _ ⟨rfl, p, ⟨fr2, ?_⟩, ?_⟩ <;> simp [put, s2, s10, s11, hp, risesB, h1, h2]
    · exact finK_le (Heap.le_refl _) (by simpa [hp, risesB, List.drop_eq_nil_of_le (Nat.le_of_not_lt hge)] using k)

/-- The parts of a span that is cut. -/
def cuts (hi : Int) : Int → List Int → List (Int × Int)
  | lo, [] => [(lo, hi)]
  | lo, n :: l => (lo, n) :: cuts hi n l
def cutP (lo hi : Int) (l : List Int) : PV :=
  if 0 ≤ lo ∧ lo < hi then
    if risesB hi lo l then .tup [.list true 2 (l.length + 1) ((cuts hi lo l).flatMap sp), .int .i64 0] else .tup [.list true 2 0 [], .int .i64 10]
  else .tup [.list true 2 0 [], .int .i64 1]
theorem Cut (fr : Bool) (lo hi : Int) (l : List Int) (hl : l.length ≤ 1000000) (h : Heap) {K : PV → Heap → Prop} (k : K (cutP lo hi l) h) :
    CanP Try.prog 39 [.agg [.int .i64 lo, .int .i64 hi], .list fr 1 l.length (l.map (.int .i64))] h K := by
  refine e39 rfl ?_
  try simp only [c39, r39_0, r39_1, r39_2, r39_3, r39_4, r39_5, r39_6, r39_7, r39_8, r39_9, r39_10, r39_11, r39_12, or_false, false_or, Bool.and_self, Bool.and_true, Bool.true_and, Bool.and_false, Bool.false_and, Bool.not_not, Int.cast_ofNat_Int, beq_self_eq_true, Heap.set_same, Heap.set_set, Heap.kill_kset, Int.toNat_natCast, Int.natCast_nonneg, Int.ofNat_lt, Int.ofNat_le, Int.natCast_inj, pmC, pmE, pmS, pmV, pmK, pmQ, pmL, pmX, pmF, pmO, pmA, pmR, pmW, pmB, Option.isSome_some, ft, olds_ints, olds_bools, ↓reduceIte, Nat.reduceEqDiff, reduceCtorEq, Nat.reduceAdd, Nat.reduceMul, Nat.reduceLeDiff, Nat.reduceLT, Int.reduceLE, Int.reduceLT, Int.reduceEq, Int.reduceToNat, Nat.zero_mul, Nat.zero_add, Nat.mul_one, ne_eq, not_false_eq_true, not_true_eq_false, true_and, and_true, decide_true, decide_false, Bool.not_true, Bool.not_false, Bool.false_eq_true, and_self, Nat.add_zero]
  intro b hb
  refine Right _ _ _ ?_
  by_cases h1 : 0 ≤ lo ∧ lo < hi
  · try simp only [h1, or_false, false_or, Bool.and_self, Bool.and_true, Bool.true_and, Bool.and_false, Bool.false_and, Bool.not_not, Int.cast_ofNat_Int, beq_self_eq_true, Heap.set_same, Heap.set_set, Heap.kill_kset, Int.toNat_natCast, Int.natCast_nonneg, Int.ofNat_lt, Int.ofNat_le, Int.natCast_inj, pmC, pmE, pmS, pmV, pmK, pmQ, pmL, pmX, pmF, pmO, pmA, pmR, pmW, pmB, Option.isSome_some, ft, olds_ints, olds_bools, ↓reduceIte, Nat.reduceEqDiff, reduceCtorEq, Nat.reduceAdd, Nat.reduceMul, Nat.reduceLeDiff, Nat.reduceLT, Int.reduceLE, Int.reduceLT, Int.reduceEq, Int.reduceToNat, Nat.zero_mul, Nat.zero_add, Nat.mul_one, ne_eq, not_false_eq_true, not_true_eq_false, true_and, and_true, decide_true, decide_false, Bool.not_true, Bool.not_false, Bool.false_eq_true, and_self, Nat.add_zero]
    refine rises _ _ _ _ (by omega) _ ?_
    cases h2 : risesB hi lo l
    · try simp only [h1, h2, or_false, false_or, Bool.and_self, Bool.and_true, Bool.true_and, Bool.and_false, Bool.false_and, Bool.not_not, Int.cast_ofNat_Int, beq_self_eq_true, Heap.set_same, Heap.set_set, Heap.kill_kset, Int.toNat_natCast, Int.natCast_nonneg, Int.ofNat_lt, Int.ofNat_le, Int.natCast_inj, pmC, pmE, pmS, pmV, pmK, pmQ, pmL, pmX, pmF, pmO, pmA, pmR, pmW, pmB, Option.isSome_some, ft, olds_ints, olds_bools, ↓reduceIte, Nat.reduceEqDiff, reduceCtorEq, Nat.reduceAdd, Nat.reduceMul, Nat.reduceLeDiff, Nat.reduceLT, Int.reduceLE, Int.reduceLT, Int.reduceEq, Int.reduceToNat, Nat.zero_mul, Nat.zero_add, Nat.mul_one, ne_eq, not_false_eq_true, not_true_eq_false, true_and, and_true, decide_true, decide_false, Bool.not_true, Bool.not_false, Bool.false_eq_true, and_self, Nat.add_zero]
      exact (Acc.nil h _ 2).fin2 (Heap.le_set (Heap.le_refl _) hb) (by simpa [cutP, h1, h2, olds] using k)
    · try simp only [h1, h2, or_false, false_or, Bool.and_self, Bool.and_true, Bool.true_and, Bool.and_false, Bool.false_and, Bool.not_not, Int.cast_ofNat_Int, beq_self_eq_true, Heap.set_same, Heap.set_set, Heap.kill_kset, Int.toNat_natCast, Int.natCast_nonneg, Int.ofNat_lt, Int.ofNat_le, Int.natCast_inj, pmC, pmE, pmS, pmV, pmK, pmQ, pmL, pmX, pmF, pmO, pmA, pmR, pmW, pmB, Option.isSome_some, ft, olds_ints, olds_bools, ↓reduceIte, Nat.reduceEqDiff, reduceCtorEq, Nat.reduceAdd, Nat.reduceMul, Nat.reduceLeDiff, Nat.reduceLT, Int.reduceLE, Int.reduceLT, Int.reduceEq, Int.reduceToNat, Nat.zero_mul, Nat.zero_add, Nat.mul_one, ne_eq, not_false_eq_true, not_true_eq_false, true_and, and_true, decide_true, decide_false, Bool.not_true, Bool.not_false, Bool.false_eq_true, and_self, Nat.add_zero]
      rw [wrap_in (by omega) (by omega)]
      refine ⟨by omega, by omega, by omega, fun c hc => ?_⟩
      have hbc : c ≠ b := fun e => by rw [e, Heap.set_same] at hc; cases hc
      have hc0 : h.f c = none := by rwa [Heap.set_ne _ _ hbc] at hc
      refine pwp_up l.length (fun i σ h' => ∃ e gone, σ 2 = .ptr b 0 ∧ Own h h' b [.int .i64 e, .int .i64 hi] ∧ Acc h h' (σ 6) 2 i (gone.flatMap sp) ∧ blkOf (σ 6) ≠ some b ∧ h.le h' ∧
        σ 20 = .list false 1 l.length (l.map (.int .i64)) ∧ σ 21 = .int .i64 l.length ∧ σ 22 = .int .i64 i ∧ cuts hi lo l = gone ++ cuts hi e (l.drop i)) ?_ ?_
      · refine ⟨lo, [], rfl, ⟨hb, by rw [Heap.set_ne _ _ (Ne.symm hbc), Heap.set_same]⟩, Acc.buf hc0 (Heap.set_same _ _ _) rfl, ?_, Heap.le_set (Heap.le_set (Heap.le_refl _) hb) hc0, rfl, rfl, rfl, rfl⟩
        simpa [put, blkOf] using hbc
      · rintro i σ h' K' hi' ⟨e, gone, s2, o2, a6, d6, lh, s20, s21, s22, hp⟩ next
        try simp only [s2, s20, s21, s22, cdK_dec, or_false, false_or, Bool.and_self, Bool.and_true, Bool.true_and, Bool.and_false, Bool.false_and, Bool.not_not, Int.cast_ofNat_Int, beq_self_eq_true, Heap.set_same, Heap.set_set, Heap.kill_kset, Int.toNat_natCast, Int.natCast_nonneg, Int.ofNat_lt, Int.ofNat_le, Int.natCast_inj, pmC, pmE, pmS, pmV, pmK, pmQ, pmL, pmX, pmF, pmO, pmA, pmR, pmW, pmB, Option.isSome_some, ft, olds_ints, olds_bools, ↓reduceIte, Nat.reduceEqDiff, reduceCtorEq, Nat.reduceAdd, Nat.reduceMul, Nat.reduceLeDiff, Nat.reduceLT, Int.reduceLE, Int.reduceLT, Int.reduceEq, Int.reduceToNat, Nat.zero_mul, Nat.zero_add, Nat.mul_one, ne_eq, not_false_eq_true, not_true_eq_false, true_and, and_true, decide_true, decide_false, Bool.not_true, Bool.not_false, Bool.false_eq_true, and_self, Nat.add_zero]
        refine ⟨fun hlt => ?_, fun hge => ?_⟩
        · have hx := getm (.int .i64) l hlt
          rw [drop_getD l hlt] at hp
          generalize l.getD i default = p at *
          try simp only [hx, hlt, s2, o2.2, s20, s21, s22, or_false, false_or, Bool.and_self, Bool.and_true, Bool.true_and, Bool.and_false, Bool.false_and, Bool.not_not, Int.cast_ofNat_Int, beq_self_eq_true, Heap.set_same, Heap.set_set, Heap.kill_kset, Int.toNat_natCast, Int.natCast_nonneg, Int.ofNat_lt, Int.ofNat_le, Int.natCast_inj, pmC, pmE, pmS, pmV, pmK, pmQ, pmL, pmX, pmF, pmO, pmA, pmR, pmW, pmB, Option.isSome_some, ft, olds_ints, olds_bools, ↓reduceIte, Nat.reduceEqDiff, reduceCtorEq, Nat.reduceAdd, Nat.reduceMul, Nat.reduceLeDiff, Nat.reduceLT, Int.reduceLE, Int.reduceLT, Int.reduceEq, Int.reduceToNat, Nat.zero_mul, Nat.zero_add, Nat.mul_one, ne_eq, not_false_eq_true, not_true_eq_false, true_and, and_true, decide_true, decide_false, Bool.not_true, Bool.not_false, Bool.false_eq_true, and_self, Nat.add_zero]
          refine a6.app lh (by decide) rfl (by omega) (by simp only [maxLen]; omega) fun v' h3 a' l' sd => ?_
          have o' := o2.beside sd d6
          try simp only [o'.1.2, hx, hlt, s2, s20, s21, s22, or_false, false_or, Bool.and_self, Bool.and_true, Bool.true_and, Bool.and_false, Bool.false_and, Bool.not_not, Int.cast_ofNat_Int, beq_self_eq_true, Heap.set_same, Heap.set_set, Heap.kill_kset, Int.toNat_natCast, Int.natCast_nonneg, Int.ofNat_lt, Int.ofNat_le, Int.natCast_inj, pmC, pmE, pmS, pmV, pmK, pmQ, pmL, pmX, pmF, pmO, pmA, pmR, pmW, pmB, Option.isSome_some, ft, olds_ints, olds_bools, ↓reduceIte, Nat.reduceEqDiff, reduceCtorEq, Nat.reduceAdd, Nat.reduceMul, Nat.reduceLeDiff, Nat.reduceLT, Int.reduceLE, Int.reduceLT, Int.reduceEq, Int.reduceToNat, Nat.zero_mul, Nat.zero_add, Nat.mul_one, ne_eq, not_false_eq_true, not_true_eq_false, true_and, and_true, decide_true, decide_false, Bool.not_true, Bool.not_false, Bool.false_eq_true, and_self, Nat.add_zero]
          rw [wrap_in (by omega) (by omega)]
          refine next hlt _ _ ⟨p, gone ++ [(e, p)], ?_⟩
          refine ⟨by simp [put, s2], o'.1.set, ?_, by simpa [put] using o'.2, o'.1.le l', by simp [put, s20], by simp [put, s21], by simp [put], by simp [hp, cuts]⟩
          have := a'.set (x := b) (ds := [.int .i64 p, .int .i64 hi]) o'.2
          simpa [put, sp] using this
        · have hil : i = l.length := by omega
          subst hil
          try simp only [s2, o2.2, s20, s21, s22, or_false, false_or, Bool.and_self, Bool.and_true, Bool.true_and, Bool.and_false, Bool.false_and, Bool.not_not, Int.cast_ofNat_Int, beq_self_eq_true, Heap.set_same, Heap.set_set, Heap.kill_kset, Int.toNat_natCast, Int.natCast_nonneg, Int.ofNat_lt, Int.ofNat_le, Int.natCast_inj, pmC, pmE, pmS, pmV, pmK, pmQ, pmL, pmX, pmF, pmO, pmA, pmR, pmW, pmB, Option.isSome_some, ft, olds_ints, olds_bools, ↓reduceIte, Nat.reduceEqDiff, reduceCtorEq, Nat.reduceAdd, Nat.reduceMul, Nat.reduceLeDiff, Nat.reduceLT, Int.reduceLE, Int.reduceLT, Int.reduceEq, Int.reduceToNat, Nat.zero_mul, Nat.zero_add, Nat.mul_one, ne_eq, not_false_eq_true, not_true_eq_false, true_and, and_true, decide_true, decide_false, Bool.not_true, Bool.not_false, Bool.false_eq_true, and_self, Nat.add_zero]
          refine a6.app lh (by decide) rfl (by omega) (by simp only [maxLen]; omega) fun v' h3 a' l' sd => ?_
          try simp only [or_false, false_or, Bool.and_self, Bool.and_true, Bool.true_and, Bool.and_false, Bool.false_and, Bool.not_not, Int.cast_ofNat_Int, beq_self_eq_true, Heap.set_same, Heap.set_set, Heap.kill_kset, Int.toNat_natCast, Int.natCast_nonneg, Int.ofNat_lt, Int.ofNat_le, Int.natCast_inj, pmC, pmE, pmS, pmV, pmK, pmQ, pmL, pmX, pmF, pmO, pmA, pmR, pmW, pmB, Option.isSome_some, ft, olds_ints, olds_bools, ↓reduceIte, Nat.reduceEqDiff, reduceCtorEq, Nat.reduceAdd, Nat.reduceMul, Nat.reduceLeDiff, Nat.reduceLT, Int.reduceLE, Int.reduceLT, Int.reduceEq, Int.reduceToNat, Nat.zero_mul, Nat.zero_add, Nat.mul_one, ne_eq, not_false_eq_true, not_true_eq_false, true_and, and_true, decide_true, decide_false, Bool.not_true, Bool.not_false, Bool.false_eq_true, and_self, Nat.add_zero]
          refine a'.fin2 l' ?_
          have e1 : gone.flatMap sp ++ [.int .i64 e, .int .i64 hi] = (gone ++ [(e, hi)]).flatMap sp := by simp [sp]
          have e2 : cuts hi lo l = gone ++ [(e, hi)] := by simpa [cuts] using hp
          rw [e1, ← e2, old_sp]
          simpa [cutP, h1, h2] using k
  · try simp only [h1, or_false, false_or, Bool.and_self, Bool.and_true, Bool.true_and, Bool.and_false, Bool.false_and, Bool.not_not, Int.cast_ofNat_Int, beq_self_eq_true, Heap.set_same, Heap.set_set, Heap.kill_kset, Int.toNat_natCast, Int.natCast_nonneg, Int.ofNat_lt, Int.ofNat_le, Int.natCast_inj, pmC, pmE, pmS, pmV, pmK, pmQ, pmL, pmX, pmF, pmO, pmA, pmR, pmW, pmB, Option.isSome_some, ft, olds_ints, olds_bools, ↓reduceIte, Nat.reduceEqDiff, reduceCtorEq, Nat.reduceAdd, Nat.reduceMul, Nat.reduceLeDiff, Nat.reduceLT, Int.reduceLE, Int.reduceLT, Int.reduceEq, Int.reduceToNat, Nat.zero_mul, Nat.zero_add, Nat.mul_one, ne_eq, not_false_eq_true, not_true_eq_false, true_and, and_true, decide_true, decide_false, Bool.not_true, Bool.not_false, Bool.false_eq_true, and_self, Nat.add_zero]
    exact (Acc.nil h _ 2).fin2 (Heap.le_set (Heap.le_refl _) hb) (by simpa [cutP, h1, olds] using k)

def sizeZ (lo hi : Int) : Int := if 0 ≤ lo ∧ lo < hi then hi - lo else 0
theorem fits_sp (r : List PV) (h : Fits [some .i64, some .i64] r) : ∃ x : Int × Int, r = sp x ∧ (x.1 ≤ 9223372036854775807 ∧ x.2 ≤ 9223372036854775807 ∧ -9223372036854775808 ≤ x.1 ∧ -9223372036854775808 ≤ x.2) := by
  obtain ⟨a, r, rfl, ha, b, r2, rfl, hb, rfl⟩ := h
  have := wf64 ha; have := wf64 hb
  exact ⟨(a, b), rfl, by omega⟩
def kinds_SpanParts : List AKind := [.row [some .i64, some .i64] 16, .one (some .i64)]
end Go.Proofs.Ytgmhdkheglnbhaa
