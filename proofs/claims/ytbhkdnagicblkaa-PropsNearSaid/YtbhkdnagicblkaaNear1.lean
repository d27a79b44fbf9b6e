/-
  What the codes around each end of a range are; the law PropsNear.
  Conditions: none but those that each sentence tells.
-/
import Derived.Test.YtbhkdnagicblkaaProps2
import Derived.Test.YtbhkdnagicblkaaRef07
namespace Go.Proofs.Ytbhkdnagicblkaa
open Go.Pm
set_option maxRecDepth 100000
set_option linter.unusedSimpArgs false
set_option linter.unusedVariables false

theorem JoinRef (c : Int) (h : Heap) {K : PV → Heap → Prop} (k : K (.int .i64 (joinT c)) h) : CanP Try.prog 12 [.int .i64 c] h K := by
  refine e12 rfl ?_
  try simp only [c12, r12_0, r12_1, or_false, false_or, Bool.and_self, Bool.and_true, Bool.true_and, Bool.and_false, Bool.false_and, Bool.not_not, Int.cast_ofNat_Int, beq_self_eq_true, Heap.set_same, Heap.set_set, Heap.kill_kset, Int.toNat_natCast, Int.natCast_nonneg, Int.ofNat_lt, Int.ofNat_le, Int.natCast_inj, pmC, pmE, pmS, pmV, pmK, pmQ, pmL, pmX, pmF, pmO, pmA, pmR, pmW, pmB, Option.isSome_some, ft, olds_ints, olds_bools, ↓reduceIte, Nat.reduceEqDiff, reduceCtorEq, Nat.reduceAdd, Nat.reduceMul, Nat.reduceLeDiff, Nat.reduceLT, Int.reduceLE, Int.reduceLT, Int.reduceEq, Int.reduceToNat, Nat.zero_mul, Nat.zero_add, Nat.mul_one, ne_eq, not_false_eq_true, not_true_eq_false, true_and, and_true, decide_true, decide_false, Bool.not_true, Bool.not_false, Bool.false_eq_true, and_self, Nat.add_zero]
  refine JoinRanges _ ?_
  try simp only [or_false, false_or, Bool.and_self, Bool.and_true, Bool.true_and, Bool.and_false, Bool.false_and, Bool.not_not, Int.cast_ofNat_Int, beq_self_eq_true, Heap.set_same, Heap.set_set, Heap.kill_kset, Int.toNat_natCast, Int.natCast_nonneg, Int.ofNat_lt, Int.ofNat_le, Int.natCast_inj, pmC, pmE, pmS, pmV, pmK, pmQ, pmL, pmX, pmF, pmO, pmA, pmR, pmW, pmB, Option.isSome_some, ft, olds_ints, olds_bools, ↓reduceIte, Nat.reduceEqDiff, reduceCtorEq, Nat.reduceAdd, Nat.reduceMul, Nat.reduceLeDiff, Nat.reduceLT, Int.reduceLE, Int.reduceLT, Int.reduceEq, Int.reduceToNat, Nat.zero_mul, Nat.zero_add, Nat.mul_one, ne_eq, not_false_eq_true, not_true_eq_false, true_and, and_true, decide_true, decide_false, Bool.not_true, Bool.not_false, Bool.false_eq_true, and_self, Nat.add_zero]
  refine GetR _ _ (by decide) _ _ _ ?_
  rw [joinT_eq]
  try simp only [or_false, false_or, Bool.and_self, Bool.and_true, Bool.true_and, Bool.and_false, Bool.false_and, Bool.not_not, Int.cast_ofNat_Int, beq_self_eq_true, Heap.set_same, Heap.set_set, Heap.kill_kset, Int.toNat_natCast, Int.natCast_nonneg, Int.ofNat_lt, Int.ofNat_le, Int.natCast_inj, pmC, pmE, pmS, pmV, pmK, pmQ, pmL, pmX, pmF, pmO, pmA, pmR, pmW, pmB, Option.isSome_some, ft, olds_ints, olds_bools, ↓reduceIte, Nat.reduceEqDiff, reduceCtorEq, Nat.reduceAdd, Nat.reduceMul, Nat.reduceLeDiff, Nat.reduceLT, Int.reduceLE, Int.reduceLT, Int.reduceEq, Int.reduceToNat, Nat.zero_mul, Nat.zero_add, Nat.mul_one, ne_eq, not_false_eq_true, not_true_eq_false, true_and, and_true, decide_true, decide_false, Bool.not_true, Bool.not_false, Bool.false_eq_true, and_self, Nat.add_zero]
  exact finK_le (Heap.le_refl _) k
def near : List R3 := brs ++ jrs
theorem near_len : near.length = 298 := by decide
theorem near_in : (near.all fun r => decide (0 ≤ r.1 ∧ r.1 ≤ 1114111 ∧ 0 ≤ r.2.1 ∧ r.2.1 ≤ 1114111)) = true := by kernel_rfl
theorem near_at {i : Nat} (h : i < near.length) : 0 ≤ (near.getD i default).1 ∧ (near.getD i default).1 ≤ 1114111 ∧ 0 ≤ (near.getD i default).2.1 ∧ (near.getD i default).2.1 ≤ 1114111 := by
  have := List.all_eq_true.1 near_in (near.getD i default) (by simp [List.getD, h])
  simpa using this
theorem uw (x : Int) : 0 ≤ IntKind.u64.wrap x := by
  simp only [IntKind.wrap, IntKind.signed, IntKind.bits, Bool.false_and, Bool.false_eq_true, if_false]
  exact Int.emod_nonneg _ (by decide)
theorem um (x : Int) {m : Int} (h1 : 0 < m) (h2 : m ≤ 1000000) : 0 ≤ IntKind.i64.wrap ((IntKind.u64.wrap x).tmod m) ∧ IntKind.i64.wrap ((IntKind.u64.wrap x).tmod m) < m := by
  have a := Int.tmod_nonneg m (uw x)
  have b := Int.tmod_lt_of_pos (IntKind.u64.wrap x) h1
  rw [wrap_in (by omega) (by omega)]; exact ⟨a, b⟩
theorem law_PropsNear (at_ by_ : Int) (h : Heap) {K : PV → Heap → Prop} (k : K (.bool true) h) : CanP Try.prog 3 [.int .i64 at_, .int .i64 by_] h K := by
  refine e3 rfl ?_
  try simp only [c3, r3_0, r3_1, r3_2, r3_3, r3_4, r3_5, r3_6, r3_7, r3_8, r3_9, r3_10, r3_11, or_false, false_or, Bool.and_self, Bool.and_true, Bool.true_and, Bool.and_false, Bool.false_and, Bool.not_not, Int.cast_ofNat_Int, beq_self_eq_true, Heap.set_same, Heap.set_set, Heap.kill_kset, Int.toNat_natCast, Int.natCast_nonneg, Int.ofNat_lt, Int.ofNat_le, Int.natCast_inj, pmC, pmE, pmS, pmV, pmK, pmQ, pmL, pmX, pmF, pmO, pmA, pmR, pmW, pmB, Option.isSome_some, ft, olds_ints, olds_bools, ↓reduceIte, Nat.reduceEqDiff, reduceCtorEq, Nat.reduceAdd, Nat.reduceMul, Nat.reduceLeDiff, Nat.reduceLT, Int.reduceLE, Int.reduceLT, Int.reduceEq, Int.reduceToNat, Nat.zero_mul, Nat.zero_add, Nat.mul_one, ne_eq, not_false_eq_true, not_true_eq_false, true_and, and_true, decide_true, decide_false, Bool.not_true, Bool.not_false, Bool.false_eq_true, and_self, Nat.add_zero]
  refine BidiL _ fun v h1 a1 l1 => ?_
  try simp only [or_false, false_or, Bool.and_self, Bool.and_true, Bool.true_and, Bool.and_false, Bool.false_and, Bool.not_not, Int.cast_ofNat_Int, beq_self_eq_true, Heap.set_same, Heap.set_set, Heap.kill_kset, Int.toNat_natCast, Int.natCast_nonneg, Int.ofNat_lt, Int.ofNat_le, Int.natCast_inj, pmC, pmE, pmS, pmV, pmK, pmQ, pmL, pmX, pmF, pmO, pmA, pmR, pmW, pmB, Option.isSome_some, ft, olds_ints, olds_bools, ↓reduceIte, Nat.reduceEqDiff, reduceCtorEq, Nat.reduceAdd, Nat.reduceMul, Nat.reduceLeDiff, Nat.reduceLT, Int.reduceLE, Int.reduceLT, Int.reduceEq, Int.reduceToNat, Nat.zero_mul, Nat.zero_add, Nat.mul_one, ne_eq, not_false_eq_true, not_true_eq_false, true_and, and_true, decide_true, decide_false, Bool.not_true, Bool.not_false, Bool.false_eq_true, and_self, Nat.add_zero]
  refine JoinRanges _ ?_
  try simp only [or_false, false_or, Bool.and_self, Bool.and_true, Bool.true_and, Bool.and_false, Bool.false_and, Bool.not_not, Int.cast_ofNat_Int, beq_self_eq_true, Heap.set_same, Heap.set_set, Heap.kill_kset, Int.toNat_natCast, Int.natCast_nonneg, Int.ofNat_lt, Int.ofNat_le, Int.natCast_inj, pmC, pmE, pmS, pmV, pmK, pmQ, pmL, pmX, pmF, pmO, pmA, pmR, pmW, pmB, Option.isSome_some, ft, olds_ints, olds_bools, ↓reduceIte, Nat.reduceEqDiff, reduceCtorEq, Nat.reduceAdd, Nat.reduceMul, Nat.reduceLeDiff, Nat.reduceLT, Int.reduceLE, Int.reduceLT, Int.reduceEq, Int.reduceToNat, Nat.zero_mul, Nat.zero_add, Nat.mul_one, ne_eq, not_false_eq_true, not_true_eq_false, true_and, and_true, decide_true, decide_false, Bool.not_true, Bool.not_false, Bool.false_eq_true, and_self, Nat.add_zero]
  refine a1.app l1 (by decide) (flat_length r3 3 r3_len jrs) (by decide) (by decide) fun v' h3 a' l' sd => ?_
  rcases a'.live with ⟨rfl, e0, _⟩ | ⟨q, rfl, e1, e2, e3⟩
  · exact absurd e0 (by decide)
  · rw [← List.flatMap_append] at e2
    rw [← List.length_append]
    rw [show brs ++ jrs = near from rfl] at *
    try simp only [e2, or_false, false_or, Bool.and_self, Bool.and_true, Bool.true_and, Bool.and_false, Bool.false_and, Bool.not_not, Int.cast_ofNat_Int, beq_self_eq_true, Heap.set_same, Heap.set_set, Heap.kill_kset, Int.toNat_natCast, Int.natCast_nonneg, Int.ofNat_lt, Int.ofNat_le, Int.natCast_inj, pmC, pmE, pmS, pmV, pmK, pmQ, pmL, pmX, pmF, pmO, pmA, pmR, pmW, pmB, Option.isSome_some, ft, olds_ints, olds_bools, ↓reduceIte, Nat.reduceEqDiff, reduceCtorEq, Nat.reduceAdd, Nat.reduceMul, Nat.reduceLeDiff, Nat.reduceLT, Int.reduceLE, Int.reduceLT, Int.reduceEq, Int.reduceToNat, Nat.zero_mul, Nat.zero_add, Nat.mul_one, ne_eq, not_false_eq_true, not_true_eq_false, true_and, and_true, decide_true, decide_false, Bool.not_true, Bool.not_false, Bool.false_eq_true, and_self, Nat.add_zero]
    have hu : IntKind.u64.wrap (near.length : Int) = 298 := by rw [near_len]; decide
    rw [hu]
    have hm := um at_ (m := 298) (by decide) (by decide)
    obtain ⟨i, hi⟩ : ∃ i : Nat, IntKind.i64.wrap ((IntKind.u64.wrap at_).tmod 298) = (i : Int) := ⟨_, (Int.toNat_of_nonneg hm.1).symm⟩
    rw [hi] at hm ⊢
    have hin : i < near.length := by rw [near_len]; omega
    have hfl := flat_length r3 3 r3_len near
    have hat := flat_at r3 3 r3_len near hin
    have hr := near_at hin
    rw [Int.toNat_natCast, hat]
    generalize near.getD i default = r at *
    have hby := um by_ (m := 5) (by decide) (by decide)
    refine ⟨by decide, by omega, by omega, by rw [hfl]; omega, fun b hb => ⟨rfl, ?_⟩⟩
    have l3 : h.le (h3.kill b) := fun x c e => by
      have e' := l' x c e
      have hne : x ≠ b := fun q => by rw [q, hb] at e'; cases e'
      rw [Heap.kill_ne _ hne]; exact e'
    generalize h3.kill b = h5 at *
    have hw5 : IntKind.u64.wrap 5 = 5 := by decide
    generalize hwv : IntKind.i64.wrap ((IntKind.u64.wrap by_).tmod 5) = w at *
    have hw2 : IntKind.i64.wrap (w - 2) = w - 2 := wrap_in (by omega) (by omega)
    refine New _ fun p hp => ?_
    try simp only [r3, hw2, or_false, false_or, Bool.and_self, Bool.and_true, Bool.true_and, Bool.and_false, Bool.false_and, Bool.not_not, Int.cast_ofNat_Int, beq_self_eq_true, Heap.set_same, Heap.set_set, Heap.kill_kset, Int.toNat_natCast, Int.natCast_nonneg, Int.ofNat_lt, Int.ofNat_le, Int.natCast_inj, pmC, pmE, pmS, pmV, pmK, pmQ, pmL, pmX, pmF, pmO, pmA, pmR, pmW, pmB, Option.isSome_some, ft, olds_ints, olds_bools, ↓reduceIte, Nat.reduceEqDiff, reduceCtorEq, Nat.reduceAdd, Nat.reduceMul, Nat.reduceLeDiff, Nat.reduceLT, Int.reduceLE, Int.reduceLT, Int.reduceEq, Int.reduceToNat, Nat.zero_mul, Nat.zero_add, Nat.mul_one, ne_eq, not_false_eq_true, not_true_eq_false, true_and, and_true, decide_true, decide_false, Bool.not_true, Bool.not_false, Bool.false_eq_true, and_self, Nat.add_zero]
    generalize IntKind.i64.wrap (r.1 + (w - 2)) = ca at *
    generalize IntKind.i64.wrap (r.2.1 + (w - 2)) = cb at *
    refine pwp_up 2 (fun i σ h' => h' = h5 ∧ σ 7 = p ∧ (∃ fr, σ 37 = .list fr 1 2 [.int .i64 ca, .int .i64 cb]) ∧ σ 38 = .int .i64 2 ∧ σ 39 = .int .i64 i) ?_ ?_
    · exact ⟨rfl, rfl, ⟨_, rfl⟩, rfl, rfl⟩
    · rintro i σ h' K' hi ⟨rfl, s7, ⟨fr, s37⟩, s38, s39⟩ next
      have hw : IntKind.i64.wrap ((i : Int) + 1) = (i : Int) + 1 := wrap_in (by omega) (by omega)
      by_cases e2 : i = 2
      · subst e2
        try simp only [s38, s39, or_false, false_or, Bool.and_self, Bool.and_true, Bool.true_and, Bool.and_false, Bool.false_and, Bool.not_not, Int.cast_ofNat_Int, beq_self_eq_true, Heap.set_same, Heap.set_set, Heap.kill_kset, Int.toNat_natCast, Int.natCast_nonneg, Int.ofNat_lt, Int.ofNat_le, Int.natCast_inj, pmC, pmE, pmS, pmV, pmK, pmQ, pmL, pmX, pmF, pmO, pmA, pmR, pmW, pmB, Option.isSome_some, ft, olds_ints, olds_bools, ↓reduceIte, Nat.reduceEqDiff, reduceCtorEq, Nat.reduceAdd, Nat.reduceMul, Nat.reduceLeDiff, Nat.reduceLT, Int.reduceLE, Int.reduceLT, Int.reduceEq, Int.reduceToNat, Nat.zero_mul, Nat.zero_add, Nat.mul_one, ne_eq, not_false_eq_true, not_true_eq_false, true_and, and_true, decide_true, decide_false, Bool.not_true, Bool.not_false, Bool.false_eq_true, and_self, Nat.add_zero]
        refine awake _ ?_
        try simp only [or_false, false_or, Bool.and_self, Bool.and_true, Bool.true_and, Bool.and_false, Bool.false_and, Bool.not_not, Int.cast_ofNat_Int, beq_self_eq_true, Heap.set_same, Heap.set_set, Heap.kill_kset, Int.toNat_natCast, Int.natCast_nonneg, Int.ofNat_lt, Int.ofNat_le, Int.natCast_inj, pmC, pmE, pmS, pmV, pmK, pmQ, pmL, pmX, pmF, pmO, pmA, pmR, pmW, pmB, Option.isSome_some, ft, olds_ints, olds_bools, ↓reduceIte, Nat.reduceEqDiff, reduceCtorEq, Nat.reduceAdd, Nat.reduceMul, Nat.reduceLeDiff, Nat.reduceLT, Int.reduceLE, Int.reduceLT, Int.reduceEq, Int.reduceToNat, Nat.zero_mul, Nat.zero_add, Nat.mul_one, ne_eq, not_false_eq_true, not_true_eq_false, true_and, and_true, decide_true, decide_false, Bool.not_true, Bool.not_false, Bool.false_eq_true, and_self, Nat.add_zero]
        exact finK_le l3 k
      · have : i = 0 ∨ i = 1 := by omega
        rcases this with rfl | rfl
        · try simp only [s7, s37, s38, s39, hw, or_false, false_or, Bool.and_self, Bool.and_true, Bool.true_and, Bool.and_false, Bool.false_and, Bool.not_not, Int.cast_ofNat_Int, beq_self_eq_true, Heap.set_same, Heap.set_set, Heap.kill_kset, Int.toNat_natCast, Int.natCast_nonneg, Int.ofNat_lt, Int.ofNat_le, Int.natCast_inj, pmC, pmE, pmS, pmV, pmK, pmQ, pmL, pmX, pmF, pmO, pmA, pmR, pmW, pmB, Option.isSome_some, ft, olds_ints, olds_bools, ↓reduceIte, Nat.reduceEqDiff, reduceCtorEq, Nat.reduceAdd, Nat.reduceMul, Nat.reduceLeDiff, Nat.reduceLT, Int.reduceLE, Int.reduceLT, Int.reduceEq, Int.reduceToNat, Nat.zero_mul, Nat.zero_add, Nat.mul_one, ne_eq, not_false_eq_true, not_true_eq_false, true_and, and_true, decide_true, decide_false, Bool.not_true, Bool.not_false, Bool.false_eq_true, and_self, Nat.add_zero]
          refine Class _ hp _ _ ?_
          try simp only [s7, or_false, false_or, Bool.and_self, Bool.and_true, Bool.true_and, Bool.and_false, Bool.false_and, Bool.not_not, Int.cast_ofNat_Int, beq_self_eq_true, Heap.set_same, Heap.set_set, Heap.kill_kset, Int.toNat_natCast, Int.natCast_nonneg, Int.ofNat_lt, Int.ofNat_le, Int.natCast_inj, pmC, pmE, pmS, pmV, pmK, pmQ, pmL, pmX, pmF, pmO, pmA, pmR, pmW, pmB, Option.isSome_some, ft, olds_ints, olds_bools, ↓reduceIte, Nat.reduceEqDiff, reduceCtorEq, Nat.reduceAdd, Nat.reduceMul, Nat.reduceLeDiff, Nat.reduceLT, Int.reduceLE, Int.reduceLT, Int.reduceEq, Int.reduceToNat, Nat.zero_mul, Nat.zero_add, Nat.mul_one, ne_eq, not_false_eq_true, not_true_eq_false, true_and, and_true, decide_true, decide_false, Bool.not_true, Bool.not_false, Bool.false_eq_true, and_self, Nat.add_zero]
          refine ClassR _ _ ?_
          try simp only [s7, or_false, false_or, Bool.and_self, Bool.and_true, Bool.true_and, Bool.and_false, Bool.false_and, Bool.not_not, Int.cast_ofNat_Int, beq_self_eq_true, Heap.set_same, Heap.set_set, Heap.kill_kset, Int.toNat_natCast, Int.natCast_nonneg, Int.ofNat_lt, Int.ofNat_le, Int.natCast_inj, pmC, pmE, pmS, pmV, pmK, pmQ, pmL, pmX, pmF, pmO, pmA, pmR, pmW, pmB, Option.isSome_some, ft, olds_ints, olds_bools, ↓reduceIte, Nat.reduceEqDiff, reduceCtorEq, Nat.reduceAdd, Nat.reduceMul, Nat.reduceLeDiff, Nat.reduceLT, Int.reduceLE, Int.reduceLT, Int.reduceEq, Int.reduceToNat, Nat.zero_mul, Nat.zero_add, Nat.mul_one, ne_eq, not_false_eq_true, not_true_eq_false, true_and, and_true, decide_true, decide_false, Bool.not_true, Bool.not_false, Bool.false_eq_true, and_self, Nat.add_zero]
          refine Join _ hp _ _ ?_
          try simp only [or_false, false_or, Bool.and_self, Bool.and_true, Bool.true_and, Bool.and_false, Bool.false_and, Bool.not_not, Int.cast_ofNat_Int, beq_self_eq_true, Heap.set_same, Heap.set_set, Heap.kill_kset, Int.toNat_natCast, Int.natCast_nonneg, Int.ofNat_lt, Int.ofNat_le, Int.natCast_inj, pmC, pmE, pmS, pmV, pmK, pmQ, pmL, pmX, pmF, pmO, pmA, pmR, pmW, pmB, Option.isSome_some, ft, olds_ints, olds_bools, ↓reduceIte, Nat.reduceEqDiff, reduceCtorEq, Nat.reduceAdd, Nat.reduceMul, Nat.reduceLeDiff, Nat.reduceLT, Int.reduceLE, Int.reduceLT, Int.reduceEq, Int.reduceToNat, Nat.zero_mul, Nat.zero_add, Nat.mul_one, ne_eq, not_false_eq_true, not_true_eq_false, true_and, and_true, decide_true, decide_false, Bool.not_true, Bool.not_false, Bool.false_eq_true, and_self, Nat.add_zero]
          refine JoinRef _ _ ?_
          try simp only [s39, hw, or_false, false_or, Bool.and_self, Bool.and_true, Bool.true_and, Bool.and_false, Bool.false_and, Bool.not_not, Int.cast_ofNat_Int, beq_self_eq_true, Heap.set_same, Heap.set_set, Heap.kill_kset, Int.toNat_natCast, Int.natCast_nonneg, Int.ofNat_lt, Int.ofNat_le, Int.natCast_inj, pmC, pmE, pmS, pmV, pmK, pmQ, pmL, pmX, pmF, pmO, pmA, pmR, pmW, pmB, Option.isSome_some, ft, olds_ints, olds_bools, ↓reduceIte, Nat.reduceEqDiff, reduceCtorEq, Nat.reduceAdd, Nat.reduceMul, Nat.reduceLeDiff, Nat.reduceLT, Int.reduceLE, Int.reduceLT, Int.reduceEq, Int.reduceToNat, Nat.zero_mul, Nat.zero_add, Nat.mul_one, ne_eq, not_false_eq_true, not_true_eq_false, true_and, and_true, decide_true, decide_false, Bool.not_true, Bool.not_false, Bool.false_eq_true, and_self, Nat.add_zero]
          exact next (by omega) _ _ ⟨rfl, by simp [put, s7], ⟨fr, by simp [put, s37]⟩, by simp [put, s38], by simp [put]; try rfl⟩
        · try simp only [s7, s37, s38, s39, hw, or_false, false_or, Bool.and_self, Bool.and_true, Bool.true_and, Bool.and_false, Bool.false_and, Bool.not_not, Int.cast_ofNat_Int, beq_self_eq_true, Heap.set_same, Heap.set_set, Heap.kill_kset, Int.toNat_natCast, Int.natCast_nonneg, Int.ofNat_lt, Int.ofNat_le, Int.natCast_inj, pmC, pmE, pmS, pmV, pmK, pmQ, pmL, pmX, pmF, pmO, pmA, pmR, pmW, pmB, Option.isSome_some, ft, olds_ints, olds_bools, ↓reduceIte, Nat.reduceEqDiff, reduceCtorEq, Nat.reduceAdd, Nat.reduceMul, Nat.reduceLeDiff, Nat.reduceLT, Int.reduceLE, Int.reduceLT, Int.reduceEq, Int.reduceToNat, Nat.zero_mul, Nat.zero_add, Nat.mul_one, ne_eq, not_false_eq_true, not_true_eq_false, true_and, and_true, decide_true, decide_false, Bool.not_true, Bool.not_false, Bool.false_eq_true, and_self, Nat.add_zero]
          refine Class _ hp _ _ ?_
          try simp only [s7, or_false, false_or, Bool.and_self, Bool.and_true, Bool.true_and, Bool.and_false, Bool.false_and, Bool.not_not, Int.cast_ofNat_Int, beq_self_eq_true, Heap.set_same, Heap.set_set, Heap.kill_kset, Int.toNat_natCast, Int.natCast_nonneg, Int.ofNat_lt, Int.ofNat_le, Int.natCast_inj, pmC, pmE, pmS, pmV, pmK, pmQ, pmL, pmX, pmF, pmO, pmA, pmR, pmW, pmB, Option.isSome_some, ft, olds_ints, olds_bools, ↓reduceIte, Nat.reduceEqDiff, reduceCtorEq, Nat.reduceAdd, Nat.reduceMul, Nat.reduceLeDiff, Nat.reduceLT, Int.reduceLE, Int.reduceLT, Int.reduceEq, Int.reduceToNat, Nat.zero_mul, Nat.zero_add, Nat.mul_one, ne_eq, not_false_eq_true, not_true_eq_false, true_and, and_true, decide_true, decide_false, Bool.not_true, Bool.not_false, Bool.false_eq_true, and_self, Nat.add_zero]
          refine ClassR _ _ ?_
          try simp only [s7, or_false, false_or, Bool.and_self, Bool.and_true, Bool.true_and, Bool.and_false, Bool.false_and, Bool.not_not, Int.cast_ofNat_Int, beq_self_eq_true, Heap.set_same, Heap.set_set, Heap.kill_kset, Int.toNat_natCast, Int.natCast_nonneg, Int.ofNat_lt, Int.ofNat_le, Int.natCast_inj, pmC, pmE, pmS, pmV, pmK, pmQ, pmL, pmX, pmF, pmO, pmA, pmR, pmW, pmB, Option.isSome_some, ft, olds_ints, olds_bools, ↓reduceIte, Nat.reduceEqDiff, reduceCtorEq, Nat.reduceAdd, Nat.reduceMul, Nat.reduceLeDiff, Nat.reduceLT, Int.reduceLE, Int.reduceLT, Int.reduceEq, Int.reduceToNat, Nat.zero_mul, Nat.zero_add, Nat.mul_one, ne_eq, not_false_eq_true, not_true_eq_false, true_and, and_true, decide_true, decide_false, Bool.not_true, Bool.not_false, Bool.false_eq_true, and_self, Nat.add_zero]
          refine Join _ hp _ _ ?_
          try simp only [or_false, false_or, Bool.and_self, Bool.and_true, Bool.true_and, Bool.and_false, Bool.false_and, Bool.not_not, Int.cast_ofNat_Int, beq_self_eq_true, Heap.set_same, Heap.set_set, Heap.kill_kset, Int.toNat_natCast, Int.natCast_nonneg, Int.ofNat_lt, Int.ofNat_le, Int.natCast_inj, pmC, pmE, pmS, pmV, pmK, pmQ, pmL, pmX, pmF, pmO, pmA, pmR, pmW, pmB, Option.isSome_some, ft, olds_ints, olds_bools, ↓reduceIte, Nat.reduceEqDiff, reduceCtorEq, Nat.reduceAdd, Nat.reduceMul, Nat.reduceLeDiff, Nat.reduceLT, Int.reduceLE, Int.reduceLT, Int.reduceEq, Int.reduceToNat, Nat.zero_mul, Nat.zero_add, Nat.mul_one, ne_eq, not_false_eq_true, not_true_eq_false, true_and, and_true, decide_true, decide_false, Bool.not_true, Bool.not_false, Bool.false_eq_true, and_self, Nat.add_zero]
          refine JoinRef _ _ ?_
          try simp only [s39, hw, or_false, false_or, Bool.and_self, Bool.and_true, Bool.true_and, Bool.and_false, Bool.false_and, Bool.not_not, Int.cast_ofNat_Int, beq_self_eq_true, Heap.set_same, Heap.set_set, Heap.kill_kset, Int.toNat_natCast, Int.natCast_nonneg, Int.ofNat_lt, Int.ofNat_le, Int.natCast_inj, pmC, pmE, pmS, pmV, pmK, pmQ, pmL, pmX, pmF, pmO, pmA, pmR, pmW, pmB, Option.isSome_some, ft, olds_ints, olds_bools, ↓reduceIte, Nat.reduceEqDiff, reduceCtorEq, Nat.reduceAdd, Nat.reduceMul, Nat.reduceLeDiff, Nat.reduceLT, Int.reduceLE, Int.reduceLT, Int.reduceEq, Int.reduceToNat, Nat.zero_mul, Nat.zero_add, Nat.mul_one, ne_eq, not_false_eq_true, not_true_eq_false, true_and, and_true, decide_true, decide_false, Bool.not_true, Bool.not_false, Bool.false_eq_true, and_self, Nat.add_zero]
          exact next (by omega) _ _ ⟨rfl, by simp [put, s7], ⟨fr, by simp [put, s37]⟩, by simp [put, s38], by simp [put]; try rfl⟩
def kinds_PropsNear : List AKind := [.one (some .i64), .one (some .i64)]
theorem all_PropsNear (pvs : List PV) (h : IsArgs kinds_PropsNear pvs) : CanP Try.prog 3 pvs Heap.nil (fun v _ => v = .bool true) := by
  obtain ⟨q, r, rfl, ⟨a, rfl, _⟩, q2, r2, rfl, ⟨b, rfl, _⟩, rfl⟩ := h
  exact law_PropsNear a b _ rfl
end Go.Proofs.Ytbhkdnagicblkaa
