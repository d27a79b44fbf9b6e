/-
  Go's library: slices.Repeat of one whole number, and what it leans on (math/bits.Mul).
  Conditions: those that each sentence tells.
-/
import Derived.Test.YthoggjdkabhpkaaC
import Derived.Test.YthoggjdkabhpkaaPmS
namespace Go.Proofs.Ythoggjdkabhpkaa
open Go.Pm
set_option maxRecDepth 100000
set_option linter.unusedSimpArgs false
set_option linter.unusedVariables false

theorem wrapU {n : Int} (h1 : 0 ≤ n) (h2 : n < 18446744073709551616) : IntKind.u64.wrap n = n := by
  have : IntKind.u64.wrap n = n % 18446744073709551616 := by simp [IntKind.wrap, IntKind.bits, IntKind.signed]
  rw [this]; omega
theorem maskU (n : Nat) (h : n < 4294967296) : ((BitVec.ofInt IntKind.u64.bits (n : Int) &&& BitVec.ofInt IntKind.u64.bits 4294967295).toNat : Int) = n := by
  have e1 : BitVec.ofInt IntKind.u64.bits 4294967295 = BitVec.ofNat 64 (2 ^ 32 - 1) := by rfl
  have e2 : BitVec.ofInt IntKind.u64.bits (n : Int) = BitVec.ofNat 64 n := by
    show BitVec.ofInt 64 (n : Int) = BitVec.ofNat 64 n
    apply BitVec.eq_of_toNat_eq
    simp [BitVec.toNat_ofInt]
  rw [e1, e2]
  have : (BitVec.ofNat 64 n &&& BitVec.ofNat 64 (2 ^ 32 - 1)).toNat = n := by
    rw [BitVec.toNat_and, BitVec.toNat_ofNat, BitVec.toNat_ofNat, Nat.mod_eq_of_lt (by omega), Nat.mod_eq_of_lt (by decide), Nat.and_two_pow_sub_one_eq_mod]
    omega
  exact congrArg Int.ofNat this
theorem Mul64 (n : Nat) (hn : n < 4294967296) (h : Heap) {K : PV → Heap → Prop} (k : K (.tup [.int .u64 0, .int .u64 n]) h) : CanP Try.prog 64 [.int .u64 1, .int .u64 n] h K := by
  refine e64 rfl ?_
  have m1 : ((BitVec.ofInt IntKind.u64.bits 1 &&& BitVec.ofInt IntKind.u64.bits 4294967295).toNat : Int) = 1 := by rfl
  have m2 := maskU n hn
  have m0 : ((BitVec.ofInt IntKind.u64.bits 0 &&& BitVec.ofInt IntKind.u64.bits 4294967295).toNat : Int) = 0 := by rfl
  have w1 : IntKind.u64.wrap 1 = 1 := by rfl
  have w0 : IntKind.u64.wrap 0 = 0 := by rfl
  have wn : IntKind.u64.wrap n = n := wrapU (by omega) (by omega)
  have s1 : (1 : Int).fdiv (2 ^ min 32 IntKind.u64.bits) = 0 := by rfl
  have s0 : (0 : Int).fdiv (2 ^ min 32 IntKind.u64.bits) = 0 := by rfl
  have sn : (n : Int).fdiv (2 ^ min 32 IntKind.u64.bits) = 0 := by
    show (n : Int).fdiv 4294967296 = 0
    rw [Int.fdiv_eq_ediv_of_nonneg _ (by decide)]; omega
  have a1 : (1 : Int) * n = n := by omega
  have a0 : (0 : Int) * n = 0 := by omega
  try simp only [c64, r64_0, r64_1, r64_2, r64_3, r64_4, r64_5, r64_6, r64_7, r64_8, r64_9, r64_10, r64_11, m1, m2, m0, w1, w0, wn, s1, s0, sn, a1, a0, Int.add_zero, Int.zero_add, Int.mul_zero, Int.zero_mul, or_false, false_or, Bool.and_self, Bool.and_true, Bool.true_and, Bool.and_false, Bool.false_and, Bool.not_not, Int.cast_ofNat_Int, beq_self_eq_true, Heap.set_same, Heap.set_set, Heap.kill_kset, Int.toNat_natCast, Int.natCast_nonneg, Int.ofNat_lt, Int.ofNat_le, Int.natCast_inj, pmC, pmE, pmS, pmV, pmK, pmQ, pmL, pmX, pmF, pmO, pmA, pmR, pmW, pmB, Option.isSome_some, ft, olds_ints, olds_bools, ↓reduceIte, Nat.reduceEqDiff, reduceCtorEq, Nat.reduceAdd, Nat.reduceMul, Nat.reduceLeDiff, Nat.reduceLT, Int.reduceLE, Int.reduceLT, Int.reduceEq, Int.reduceToNat, Nat.zero_mul, Nat.zero_add, Nat.mul_one, ne_eq, not_false_eq_true, not_true_eq_false, true_and, and_true, decide_true, decide_false, Bool.not_true, Bool.not_false, Bool.false_eq_true, and_self, Nat.add_zero]
  exact finK_le (Heap.le_refl _) k
theorem Mul (n : Nat) (hn : n < 4294967296) (h : Heap) {K : PV → Heap → Prop} (k : K (.tup [.int .u64 0, .int .u64 n]) h) : CanP Try.prog 56 [.int .u64 1, .int .u64 n] h K := by
  refine e56 rfl ?_
  try simp only [c56, r56_0, r56_1, r56_2, r56_3, r56_4, or_false, false_or, Bool.and_self, Bool.and_true, Bool.true_and, Bool.and_false, Bool.false_and, Bool.not_not, Int.cast_ofNat_Int, beq_self_eq_true, Heap.set_same, Heap.set_set, Heap.kill_kset, Int.toNat_natCast, Int.natCast_nonneg, Int.ofNat_lt, Int.ofNat_le, Int.natCast_inj, pmC, pmE, pmS, pmV, pmK, pmQ, pmL, pmX, pmF, pmO, pmA, pmR, pmW, pmB, Option.isSome_some, ft, olds_ints, olds_bools, ↓reduceIte, Nat.reduceEqDiff, reduceCtorEq, Nat.reduceAdd, Nat.reduceMul, Nat.reduceLeDiff, Nat.reduceLT, Int.reduceLE, Int.reduceLT, Int.reduceEq, Int.reduceToNat, Nat.zero_mul, Nat.zero_add, Nat.mul_one, ne_eq, not_false_eq_true, not_true_eq_false, true_and, and_true, decide_true, decide_false, Bool.not_true, Bool.not_false, Bool.false_eq_true, and_self, Nat.add_zero]
  refine Mul64 _ hn _ ?_
  try simp only [or_false, false_or, Bool.and_self, Bool.and_true, Bool.true_and, Bool.and_false, Bool.false_and, Bool.not_not, Int.cast_ofNat_Int, beq_self_eq_true, Heap.set_same, Heap.set_set, Heap.kill_kset, Int.toNat_natCast, Int.natCast_nonneg, Int.ofNat_lt, Int.ofNat_le, Int.natCast_inj, pmC, pmE, pmS, pmV, pmK, pmQ, pmL, pmX, pmF, pmO, pmA, pmR, pmW, pmB, Option.isSome_some, ft, olds_ints, olds_bools, ↓reduceIte, Nat.reduceEqDiff, reduceCtorEq, Nat.reduceAdd, Nat.reduceMul, Nat.reduceLeDiff, Nat.reduceLT, Int.reduceLE, Int.reduceLT, Int.reduceEq, Int.reduceToNat, Nat.zero_mul, Nat.zero_add, Nat.mul_one, ne_eq, not_false_eq_true, not_true_eq_false, true_and, and_true, decide_true, decide_false, Bool.not_true, Bool.not_false, Bool.false_eq_true, and_self, Nat.add_zero]
  exact finK_le (Heap.le_refl _) k
/-- A row of one number, so many times: a row of one's own. -/
theorem Repeat (x : Int) (fr : Bool) (n : Nat) (hn : n ≤ 1000000) (h : Heap) {K : PV → Heap → Prop} (k : ∀ b, h.f b = none → K (.buf b 1 0 n) (h.set b ((List.replicate n x).map (.int .i64)))) :
    CanP Try.prog 44 [.list fr 1 1 [.int .i64 x], .int .i64 n] h K := by
  refine e44 rfl ?_
  have w1 : IntKind.u64.wrap 1 = 1 := by rfl
  have wn : IntKind.u64.wrap n = n := wrapU (by omega) (by omega)
  have wi : IntKind.i64.wrap n = n := wrap_in (by omega) (by omega)
  have n0 : ¬ (n : Int) < 0 := by omega
  have n1 : ¬ (9223372036854775807 : Int) < n := by omega
  try simp only [c44, r44_0, r44_1, r44_2, r44_3, r44_4, r44_5, r44_6, r44_7, r44_8, r44_9, r44_10, w1, wn, n0, or_false, false_or, Bool.and_self, Bool.and_true, Bool.true_and, Bool.and_false, Bool.false_and, Bool.not_not, Int.cast_ofNat_Int, beq_self_eq_true, Heap.set_same, Heap.set_set, Heap.kill_kset, Int.toNat_natCast, Int.natCast_nonneg, Int.ofNat_lt, Int.ofNat_le, Int.natCast_inj, pmC, pmE, pmS, pmV, pmK, pmQ, pmL, pmX, pmF, pmO, pmA, pmR, pmW, pmB, Option.isSome_some, ft, olds_ints, olds_bools, ↓reduceIte, Nat.reduceEqDiff, reduceCtorEq, Nat.reduceAdd, Nat.reduceMul, Nat.reduceLeDiff, Nat.reduceLT, Int.reduceLE, Int.reduceLT, Int.reduceEq, Int.reduceToNat, Nat.zero_mul, Nat.zero_add, Nat.mul_one, ne_eq, not_false_eq_true, not_true_eq_false, true_and, and_true, decide_true, decide_false, Bool.not_true, Bool.not_false, Bool.false_eq_true, and_self, Nat.add_zero]
  refine Mul _ (by omega) _ ?_
  try simp only [n1, wi, or_false, false_or, Bool.and_self, Bool.and_true, Bool.true_and, Bool.and_false, Bool.false_and, Bool.not_not, Int.cast_ofNat_Int, beq_self_eq_true, Heap.set_same, Heap.set_set, Heap.kill_kset, Int.toNat_natCast, Int.natCast_nonneg, Int.ofNat_lt, Int.ofNat_le, Int.natCast_inj, pmC, pmE, pmS, pmV, pmK, pmQ, pmL, pmX, pmF, pmO, pmA, pmR, pmW, pmB, Option.isSome_some, ft, olds_ints, olds_bools, ↓reduceIte, Nat.reduceEqDiff, reduceCtorEq, Nat.reduceAdd, Nat.reduceMul, Nat.reduceLeDiff, Nat.reduceLT, Int.reduceLE, Int.reduceLT, Int.reduceEq, Int.reduceToNat, Nat.zero_mul, Nat.zero_add, Nat.mul_one, ne_eq, not_false_eq_true, not_true_eq_false, true_and, and_true, decide_true, decide_false, Bool.not_true, Bool.not_false, Bool.false_eq_true, and_self, Nat.add_zero]
  refine ⟨Nat.le_refl _, by omega, by omega, fun b hb => ?_⟩
  have e0 : rep n [PV.int .i64 0] = (List.replicate n 0).map (PV.int .i64) := rep_map (PV.int .i64) 0 n
  rw [e0]
  refine ⟨by simp, ?_⟩
  by_cases hn0 : n = 0
  · subst hn0
    refine pwp_fall (fun m σ h' => h' = h.set b [] ∧ σ 7 = .buf b 1 0 0 ∧ σ 8 = .int .i64 0) 0 ⟨by simp [wr], rfl, by simp [put]⟩ ?_
    rintro m σ h' K' ⟨rfl, s7, s8⟩ next
    try simp only [s7, s8, or_false, false_or, Bool.and_self, Bool.and_true, Bool.true_and, Bool.and_false, Bool.false_and, Bool.not_not, Int.cast_ofNat_Int, beq_self_eq_true, Heap.set_same, Heap.set_set, Heap.kill_kset, Int.toNat_natCast, Int.natCast_nonneg, Int.ofNat_lt, Int.ofNat_le, Int.natCast_inj, pmC, pmE, pmS, pmV, pmK, pmQ, pmL, pmX, pmF, pmO, pmA, pmR, pmW, pmB, Option.isSome_some, ft, olds_ints, olds_bools, ↓reduceIte, Nat.reduceEqDiff, reduceCtorEq, Nat.reduceAdd, Nat.reduceMul, Nat.reduceLeDiff, Nat.reduceLT, Int.reduceLE, Int.reduceLT, Int.reduceEq, Int.reduceToNat, Nat.zero_mul, Nat.zero_add, Nat.mul_one, ne_eq, not_false_eq_true, not_true_eq_false, true_and, and_true, decide_true, decide_false, Bool.not_true, Bool.not_false, Bool.false_eq_true, and_self, Nat.add_zero]
    exact finK_rf (k b hb)
  · have ej : min 1 n = 1 := by omega
    refine pwp_fall (fun m σ h' => ∃ j : Nat, 1 ≤ j ∧ j ≤ n ∧ n - j = m ∧ h' = h.set b ((List.replicate j x ++ List.replicate (n - j) 0).map (PV.int .i64)) ∧ σ 7 = .buf b 1 0 n ∧ σ 8 = .int .i64 j) (n - 1) ⟨1, by omega, by omega, rfl, ?_, rfl, ?_⟩ ?_
    · rw [ej]
      congr 1
      obtain ⟨m, rfl⟩ : ∃ m, n = m + 1 := ⟨n - 1, by omega⟩
      simp [wr, List.replicate_succ]
    · rw [ej]; rfl
    · rintro m σ h' K' ⟨j, j1, j2, rfl, rfl, s7, s8⟩ next
      try simp only [s7, s8, cdK_dec, or_false, false_or, Bool.and_self, Bool.and_true, Bool.true_and, Bool.and_false, Bool.false_and, Bool.not_not, Int.cast_ofNat_Int, beq_self_eq_true, Heap.set_same, Heap.set_set, Heap.kill_kset, Int.toNat_natCast, Int.natCast_nonneg, Int.ofNat_lt, Int.ofNat_le, Int.natCast_inj, pmC, pmE, pmS, pmV, pmK, pmQ, pmL, pmX, pmF, pmO, pmA, pmR, pmW, pmB, Option.isSome_some, ft, olds_ints, olds_bools, ↓reduceIte, Nat.reduceEqDiff, reduceCtorEq, Nat.reduceAdd, Nat.reduceMul, Nat.reduceLeDiff, Nat.reduceLT, Int.reduceLE, Int.reduceLT, Int.reduceEq, Int.reduceToNat, Nat.zero_mul, Nat.zero_add, Nat.mul_one, ne_eq, not_false_eq_true, not_true_eq_false, true_and, and_true, decide_true, decide_false, Bool.not_true, Bool.not_false, Bool.false_eq_true, and_self, Nat.add_zero]
      refine ⟨fun hlt => ?_, fun hge => ?_⟩
      · have hL : ((List.replicate j x ++ List.replicate (n - j) 0).map (PV.int .i64)).length = n := by simp; omega
        have hT : ((List.replicate j x ++ List.replicate (n - j) 0).map (PV.int .i64)).take j = (List.replicate j x).map (PV.int .i64) := by rw [List.map_append, List.take_left' (by simp)]
        try simp only [s7, s8, slcB_lo (show 0 < j by omega) hlt, slcB_hi j2, hL, j2, if_true, List.drop_zero, hT, or_false, false_or, Bool.and_self, Bool.and_true, Bool.true_and, Bool.and_false, Bool.false_and, Bool.not_not, Int.cast_ofNat_Int, beq_self_eq_true, Heap.set_same, Heap.set_set, Heap.kill_kset, Int.toNat_natCast, Int.natCast_nonneg, Int.ofNat_lt, Int.ofNat_le, Int.natCast_inj, pmC, pmE, pmS, pmV, pmK, pmQ, pmL, pmX, pmF, pmO, pmA, pmR, pmW, pmB, Option.isSome_some, ft, olds_ints, olds_bools, ↓reduceIte, Nat.reduceEqDiff, reduceCtorEq, Nat.reduceAdd, Nat.reduceMul, Nat.reduceLeDiff, Nat.reduceLT, Int.reduceLE, Int.reduceLT, Int.reduceEq, Int.reduceToNat, Nat.zero_mul, Nat.zero_add, Nat.mul_one, ne_eq, not_false_eq_true, not_true_eq_false, true_and, and_true, decide_true, decide_false, Bool.not_true, Bool.not_false, Bool.false_eq_true, and_self, Nat.add_zero]
        refine ⟨by simp, by omega, ?_⟩
        have hw : IntKind.i64.wrap ((j : Int) + (min j (n - j) : Nat)) = (j + min j (n - j) : Nat) := by rw [wrap_in (by omega) (by omega)]; omega
        try simp only [hw, or_false, false_or, Bool.and_self, Bool.and_true, Bool.true_and, Bool.and_false, Bool.false_and, Bool.not_not, Int.cast_ofNat_Int, beq_self_eq_true, Heap.set_same, Heap.set_set, Heap.kill_kset, Int.toNat_natCast, Int.natCast_nonneg, Int.ofNat_lt, Int.ofNat_le, Int.natCast_inj, pmC, pmE, pmS, pmV, pmK, pmQ, pmL, pmX, pmF, pmO, pmA, pmR, pmW, pmB, Option.isSome_some, ft, olds_ints, olds_bools, ↓reduceIte, Nat.reduceEqDiff, reduceCtorEq, Nat.reduceAdd, Nat.reduceMul, Nat.reduceLeDiff, Nat.reduceLT, Int.reduceLE, Int.reduceLT, Int.reduceEq, Int.reduceToNat, Nat.zero_mul, Nat.zero_add, Nat.mul_one, ne_eq, not_false_eq_true, not_true_eq_false, true_and, and_true, decide_true, decide_false, Bool.not_true, Bool.not_false, Bool.false_eq_true, and_self, Nat.add_zero]
        refine next (n - (j + min j (n - j))) _ _ (by omega) ⟨j + min j (n - j), by omega, by omega, rfl, ?_, by simp [put, s7], by simp [put]⟩
        congr 1
        have hq2 : min j (n - j) ≤ n - j := by omega
        have hq1 : min j (n - j) ≤ j := by omega
        generalize min j (n - j) = q at *
        obtain ⟨r, hr⟩ : ∃ r, n - j = q + r := ⟨n - j - q, by omega⟩
        have hr2 : n - (j + q) = r := by omega
        rw [← List.map_take, List.take_replicate, Nat.min_eq_left hq1, hr, hr2]
        simp only [wr, List.length_map, List.length_replicate, ← List.map_take, ← List.map_drop, ← List.map_append]
        congr 1
        rw [List.take_left' (by simp), ← List.replicate_append_replicate (n := q) (m := r), ← List.append_assoc (List.replicate j x), List.drop_left' (by simp), ← List.replicate_append_replicate (n := j) (m := q)]
      · have : j = n := by omega
        subst this
        try simp only [s7, or_false, false_or, Bool.and_self, Bool.and_true, Bool.true_and, Bool.and_false, Bool.false_and, Bool.not_not, Int.cast_ofNat_Int, beq_self_eq_true, Heap.set_same, Heap.set_set, Heap.kill_kset, Int.toNat_natCast, Int.natCast_nonneg, Int.ofNat_lt, Int.ofNat_le, Int.natCast_inj, pmC, pmE, pmS, pmV, pmK, pmQ, pmL, pmX, pmF, pmO, pmA, pmR, pmW, pmB, Option.isSome_some, ft, olds_ints, olds_bools, ↓reduceIte, Nat.reduceEqDiff, reduceCtorEq, Nat.reduceAdd, Nat.reduceMul, Nat.reduceLeDiff, Nat.reduceLT, Int.reduceLE, Int.reduceLT, Int.reduceEq, Int.reduceToNat, Nat.zero_mul, Nat.zero_add, Nat.mul_one, ne_eq, not_false_eq_true, not_true_eq_false, true_and, and_true, decide_true, decide_false, Bool.not_true, Bool.not_false, Bool.false_eq_true, and_self, Nat.add_zero]
        have e : (List.replicate j x ++ List.replicate (j - j) 0).map (PV.int .i64) = (List.replicate j x).map (PV.int .i64) := by simp
        rw [e]
        exact finK_rf (k b hb)
end Go.Proofs.Ythoggjdkabhpkaa
