/-
  A table of codes' values is asked: the package trie.
  Conditions: none but those that each sentence tells.
-/
import Derived.Test.YtjabiegaeflhjaaTrie3
namespace Go.Proofs.Ytjabiegaeflhjaa
open Go.Pm
set_option maxRecDepth 100000
set_option linter.unusedSimpArgs false
set_option linter.unusedVariables false

theorem and127 (c : Int) (h1 : 0 ≤ c) (h2 : c ≤ 1114111) : IntKind.i64.wrap (BitVec.ofInt IntKind.i64.bits c &&& BitVec.ofInt IntKind.i64.bits 127).toNat = ((c.toNat % 128 : Nat) : Int) := by
  have e : (BitVec.ofInt IntKind.i64.bits c &&& BitVec.ofInt IntKind.i64.bits 127).toNat = c.toNat % 128 := by
    show (BitVec.ofInt 64 c &&& BitVec.ofInt 64 127).toNat = c.toNat % 128
    rw [BitVec.toNat_and]
    have a1 : (BitVec.ofInt 64 c).toNat = c.toNat := by rw [BitVec.toNat_ofInt]; omega
    have a2 : (BitVec.ofInt 64 127).toNat = 2 ^ 7 - 1 := by rfl
    rw [a1, a2, Nat.and_two_pow_sub_one_eq_mod]
  rw [e, wrap_in (by omega) (by omega)]
theorem at_ (fr : Bool) (l : List R3) (n : Int) (F : List Int) (bs : List (Nat → Int)) (T : Tab l n F bs) (c : Int) (h1 : 0 ≤ c) (h2 : c ≤ 1114111) (h : Heap) {K : PV → Heap → Prop} (k : K (.int .i64 (getR l n c)) h) :
    CanP Try.prog 59 [tab fr F bs n, .int .i64 c] h K := by
  refine e59 rfl ?_
  obtain ⟨hF, hb, hT⟩ := T
  have hp : c.toNat / 128 < 8704 := by omega
  obtain ⟨q, q1, q2, q3⟩ := hT _ hp
  have e3 : c.fdiv (2 ^ (min 7 IntKind.i64.bits)) = ((c.toNat / 128 : Nat) : Int) := by
    rw [show (2 : Int) ^ (min 7 IntKind.i64.bits) = 128 from rfl, Int.fdiv_eq_ediv_of_nonneg _ (by omega)]; omega
  have e4 := and127 c h1 h2
  have hj : c.toNat % 128 < 128 := Nat.mod_lt _ (by omega)
  have hj2 : ((c.toNat % 128 : Nat) : Int) < 128 := by omega
  have hx := getm (PV.int .i64) F (i := c.toNat / 128) (by omega)
  rw [q1] at hx
  have hy := flat_get ci 128 ci_len bs q2 hj
  have hz : (ci (bs.getD q default))[c.toNat % 128]? = some (.int .i64 (getR l n c)) := by
    have := getm (PV.int .i64) (blk (bs.getD q default)) (i := c.toNat % 128) (by rw [blk_len]; exact hj)
    rw [q3, Bk, blk_get _ hj] at this
    rw [show ci (bs.getD q default) = (blk (bs.getD q default)).map (PV.int .i64) from rfl, q3, Bk]
    rw [this]
    congr 3; omega
  rw [hz] at hy
  have hp2 : ((c.toNat / 128 : Nat) : Int) < 8704 := by omega
  try simp only [c59, r59_0, r59_1, tab, olds_ints, old_cis, e3, e4, hx, hp, hp2, Nat.mul_one, q2, hj, hj2, hy, or_false, false_or, Bool.and_self, Bool.and_true, Bool.true_and, Bool.and_false, Bool.false_and, Bool.not_not, Int.cast_ofNat_Int, beq_self_eq_true, Heap.set_same, Heap.set_set, Heap.kill_kset, Int.toNat_natCast, Int.natCast_nonneg, Int.ofNat_lt, Int.ofNat_le, Int.natCast_inj, pmC, pmE, pmS, pmV, pmK, pmQ, pmL, pmX, pmF, pmO, pmA, pmR, pmW, pmB, Option.isSome_some, ft, olds_ints, olds_bools, ↓reduceIte, Nat.reduceEqDiff, reduceCtorEq, Nat.reduceAdd, Nat.reduceMul, Nat.reduceLeDiff, Nat.reduceLT, Int.reduceLE, Int.reduceLT, Int.reduceEq, Int.reduceToNat, Nat.zero_mul, Nat.zero_add, Nat.mul_one, ne_eq, not_false_eq_true, not_true_eq_false, true_and, and_true, decide_true, decide_false, Bool.not_true, Bool.not_false, Bool.false_eq_true, and_self, Nat.add_zero]
  exact finK_le (Heap.le_refl _) k
def getT (l : List R3) (n c : Int) : Int := if 0 ≤ c ∧ c ≤ 1114111 then getR l n c else n
theorem has (fr : Bool) (F : List Int) (bs : List (Nat → Int)) (n c : Int) (h : Heap) {K : PV → Heap → Prop} (k : K (.bool (decide (0 ≤ c ∧ c ≤ 1114111))) h) : CanP Try.prog 58 [tab fr F bs n, .int .i64 c] h K := by
  refine e58 rfl ?_
  try simp only [c58, r58_0, r58_1, tab, or_false, false_or, Bool.and_self, Bool.and_true, Bool.true_and, Bool.and_false, Bool.false_and, Bool.not_not, Int.cast_ofNat_Int, beq_self_eq_true, Heap.set_same, Heap.set_set, Heap.kill_kset, Int.toNat_natCast, Int.natCast_nonneg, Int.ofNat_lt, Int.ofNat_le, Int.natCast_inj, pmC, pmE, pmS, pmV, pmK, pmQ, pmL, pmX, pmF, pmO, pmA, pmR, pmW, pmB, Option.isSome_some, ft, olds_ints, olds_bools, ↓reduceIte, Nat.reduceEqDiff, reduceCtorEq, Nat.reduceAdd, Nat.reduceMul, Nat.reduceLeDiff, Nat.reduceLT, Int.reduceLE, Int.reduceLT, Int.reduceEq, Int.reduceToNat, Nat.zero_mul, Nat.zero_add, Nat.mul_one, ne_eq, not_false_eq_true, not_true_eq_false, true_and, and_true, decide_true, decide_false, Bool.not_true, Bool.not_false, Bool.false_eq_true, and_self, Nat.add_zero]
  by_cases h1 : 0 ≤ c
  · try simp only [h1, or_false, false_or, Bool.and_self, Bool.and_true, Bool.true_and, Bool.and_false, Bool.false_and, Bool.not_not, Int.cast_ofNat_Int, beq_self_eq_true, Heap.set_same, Heap.set_set, Heap.kill_kset, Int.toNat_natCast, Int.natCast_nonneg, Int.ofNat_lt, Int.ofNat_le, Int.natCast_inj, pmC, pmE, pmS, pmV, pmK, pmQ, pmL, pmX, pmF, pmO, pmA, pmR, pmW, pmB, Option.isSome_some, ft, olds_ints, olds_bools, ↓reduceIte, Nat.reduceEqDiff, reduceCtorEq, Nat.reduceAdd, Nat.reduceMul, Nat.reduceLeDiff, Nat.reduceLT, Int.reduceLE, Int.reduceLT, Int.reduceEq, Int.reduceToNat, Nat.zero_mul, Nat.zero_add, Nat.mul_one, ne_eq, not_false_eq_true, not_true_eq_false, true_and, and_true, decide_true, decide_false, Bool.not_true, Bool.not_false, Bool.false_eq_true, and_self, Nat.add_zero]
    exact finK_le (Heap.le_refl _) (by simpa [h1] using k)
  · try simp only [h1, or_false, false_or, Bool.and_self, Bool.and_true, Bool.true_and, Bool.and_false, Bool.false_and, Bool.not_not, Int.cast_ofNat_Int, beq_self_eq_true, Heap.set_same, Heap.set_set, Heap.kill_kset, Int.toNat_natCast, Int.natCast_nonneg, Int.ofNat_lt, Int.ofNat_le, Int.natCast_inj, pmC, pmE, pmS, pmV, pmK, pmQ, pmL, pmX, pmF, pmO, pmA, pmR, pmW, pmB, Option.isSome_some, ft, olds_ints, olds_bools, ↓reduceIte, Nat.reduceEqDiff, reduceCtorEq, Nat.reduceAdd, Nat.reduceMul, Nat.reduceLeDiff, Nat.reduceLT, Int.reduceLE, Int.reduceLT, Int.reduceEq, Int.reduceToNat, Nat.zero_mul, Nat.zero_add, Nat.mul_one, ne_eq, not_false_eq_true, not_true_eq_false, true_and, and_true, decide_true, decide_false, Bool.not_true, Bool.not_false, Bool.false_eq_true, and_self, Nat.add_zero]
    exact finK_le (Heap.le_refl _) (by simpa [h1] using k)
theorem old_tab (fr : Bool) (F : List Int) (bs : List (Nat → Int)) (n : Int) : PV.old (tab fr F bs n) = tab false F bs n := by simp [tab, olds, PV.old, olds_ints, old_cis]
theorem Get (fr : Bool) (l : List R3) (n : Int) (F : List Int) (bs : List (Nat → Int)) (T : Tab l n F bs) (c : Int) (h : Heap) {K : PV → Heap → Prop} (k : K (.int .i64 (getT l n c)) h) :
    CanP Try.prog 57 [tab fr F bs n, .int .i64 c] h K := by
  refine e57 rfl ?_
  try simp only [c57, r57_0, r57_1, r57_2, r57_3, r57_4, r57_5, old_tab, or_false, false_or, Bool.and_self, Bool.and_true, Bool.true_and, Bool.and_false, Bool.false_and, Bool.not_not, Int.cast_ofNat_Int, beq_self_eq_true, Heap.set_same, Heap.set_set, Heap.kill_kset, Int.toNat_natCast, Int.natCast_nonneg, Int.ofNat_lt, Int.ofNat_le, Int.natCast_inj, pmC, pmE, pmS, pmV, pmK, pmQ, pmL, pmX, pmF, pmO, pmA, pmR, pmW, pmB, Option.isSome_some, ft, olds_ints, olds_bools, ↓reduceIte, Nat.reduceEqDiff, reduceCtorEq, Nat.reduceAdd, Nat.reduceMul, Nat.reduceLeDiff, Nat.reduceLT, Int.reduceLE, Int.reduceLT, Int.reduceEq, Int.reduceToNat, Nat.zero_mul, Nat.zero_add, Nat.mul_one, ne_eq, not_false_eq_true, not_true_eq_false, true_and, and_true, decide_true, decide_false, Bool.not_true, Bool.not_false, Bool.false_eq_true, and_self, Nat.add_zero]
  refine has _ _ _ _ _ _ ?_
  by_cases h1 : 0 ≤ c ∧ c ≤ 1114111
  · rw [getT, if_pos h1] at k
    have hd := decide_eq_true h1
    try simp only [hd, tab, or_false, false_or, Bool.and_self, Bool.and_true, Bool.true_and, Bool.and_false, Bool.false_and, Bool.not_not, Int.cast_ofNat_Int, beq_self_eq_true, Heap.set_same, Heap.set_set, Heap.kill_kset, Int.toNat_natCast, Int.natCast_nonneg, Int.ofNat_lt, Int.ofNat_le, Int.natCast_inj, pmC, pmE, pmS, pmV, pmK, pmQ, pmL, pmX, pmF, pmO, pmA, pmR, pmW, pmB, Option.isSome_some, ft, olds_ints, olds_bools, ↓reduceIte, Nat.reduceEqDiff, reduceCtorEq, Nat.reduceAdd, Nat.reduceMul, Nat.reduceLeDiff, Nat.reduceLT, Int.reduceLE, Int.reduceLT, Int.reduceEq, Int.reduceToNat, Nat.zero_mul, Nat.zero_add, Nat.mul_one, ne_eq, not_false_eq_true, not_true_eq_false, true_and, and_true, decide_true, decide_false, Bool.not_true, Bool.not_false, Bool.false_eq_true, and_self, Nat.add_zero]
    refine at_ false l n F bs T c h1.1 h1.2 _ ?_
    try simp only [or_false, false_or, Bool.and_self, Bool.and_true, Bool.true_and, Bool.and_false, Bool.false_and, Bool.not_not, Int.cast_ofNat_Int, beq_self_eq_true, Heap.set_same, Heap.set_set, Heap.kill_kset, Int.toNat_natCast, Int.natCast_nonneg, Int.ofNat_lt, Int.ofNat_le, Int.natCast_inj, pmC, pmE, pmS, pmV, pmK, pmQ, pmL, pmX, pmF, pmO, pmA, pmR, pmW, pmB, Option.isSome_some, ft, olds_ints, olds_bools, ↓reduceIte, Nat.reduceEqDiff, reduceCtorEq, Nat.reduceAdd, Nat.reduceMul, Nat.reduceLeDiff, Nat.reduceLT, Int.reduceLE, Int.reduceLT, Int.reduceEq, Int.reduceToNat, Nat.zero_mul, Nat.zero_add, Nat.mul_one, ne_eq, not_false_eq_true, not_true_eq_false, true_and, and_true, decide_true, decide_false, Bool.not_true, Bool.not_false, Bool.false_eq_true, and_self, Nat.add_zero]
    exact finK_le (Heap.le_refl _) k
  · rw [getT, if_neg h1] at k
    have hd := decide_eq_false h1
    try simp only [hd, tab, or_false, false_or, Bool.and_self, Bool.and_true, Bool.true_and, Bool.and_false, Bool.false_and, Bool.not_not, Int.cast_ofNat_Int, beq_self_eq_true, Heap.set_same, Heap.set_set, Heap.kill_kset, Int.toNat_natCast, Int.natCast_nonneg, Int.ofNat_lt, Int.ofNat_le, Int.natCast_inj, pmC, pmE, pmS, pmV, pmK, pmQ, pmL, pmX, pmF, pmO, pmA, pmR, pmW, pmB, Option.isSome_some, ft, olds_ints, olds_bools, ↓reduceIte, Nat.reduceEqDiff, reduceCtorEq, Nat.reduceAdd, Nat.reduceMul, Nat.reduceLeDiff, Nat.reduceLT, Int.reduceLE, Int.reduceLT, Int.reduceEq, Int.reduceToNat, Nat.zero_mul, Nat.zero_add, Nat.mul_one, ne_eq, not_false_eq_true, not_true_eq_false, true_and, and_true, decide_true, decide_false, Bool.not_true, Bool.not_false, Bool.false_eq_true, and_self, Nat.add_zero]
    exact finK_le (Heap.le_refl _) k
end Go.Proofs.Ytjabiegaeflhjaa
