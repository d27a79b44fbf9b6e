/-
  Orders: whether numbers are one (order.Permutes, and the document's).
  Conditions: a row of at most a million.
-/
import Derived.Test.YthoggjdkabhpkaaIntsRep
import Derived.Test.YthoggjdkabhpkaaSpan1
import Derived.Test.YthoggjdkabhpkaaPmT
namespace Go.Proofs.Ythoggjdkabhpkaa
open Go.Pm
set_option maxRecDepth 100000
set_option linter.unusedSimpArgs false
set_option linter.unusedVariables false

def permG (n : Nat) (pre : List Int) : List Int → Bool
  | [] => true
  | x :: l => decide (0 ≤ x) && (decide (x < (n : Int)) && (!decide (x ∈ pre) && permG n (pre ++ [x]) l))
def permB (o : List Int) : Bool := permG o.length [] o
theorem take_next (l : List Int) {i : Nat} (h : i < l.length) : l.take (i + 1) = l.take i ++ [l.getD i default] := by
  have := take_succ_map (fun x : Int => x) l h
  simpa using this
theorem places (fr : Bool) (o : List Int) (hl : o.length ≤ 1000000) (h : Heap) {K : PV → Heap → Prop} (k : ∀ C : List Int, K (.tup [.list true 1 C.length (C.map (.int .i64)), .bool (permB o)]) h) :
    CanP Try.prog 40 [.list fr 1 o.length (o.map (.int .i64))] h K := by
  refine e40 rfl ?_
  try simp only [c40, r40_0, r40_1, r40_2, r40_3, r40_4, r40_5, r40_6, r40_7, r40_8, r40_9, or_false, false_or, Bool.and_self, Bool.and_true, Bool.true_and, Bool.and_false, Bool.false_and, Bool.not_not, Int.cast_ofNat_Int, beq_self_eq_true, Heap.set_same, Heap.set_set, Heap.kill_kset, Int.toNat_natCast, Int.natCast_nonneg, Int.ofNat_lt, Int.ofNat_le, Int.natCast_inj, pmC, pmE, pmS, pmV, pmK, pmQ, pmL, pmX, pmF, pmO, pmA, pmR, pmW, pmB, Option.isSome_some, ft, olds_ints, olds_bools, ↓reduceIte, Nat.reduceEqDiff, reduceCtorEq, Nat.reduceAdd, Nat.reduceMul, Nat.reduceLeDiff, Nat.reduceLT, Int.reduceLE, Int.reduceLT, Int.reduceEq, Int.reduceToNat, Nat.zero_mul, Nat.zero_add, Nat.mul_one, ne_eq, not_false_eq_true, not_true_eq_false, true_and, and_true, decide_true, decide_false, Bool.not_true, Bool.not_false, Bool.false_eq_true, and_self, Nat.add_zero]
  refine Repeat _ _ _ hl _ fun b hb => ?_
  try simp only [or_false, false_or, Bool.and_self, Bool.and_true, Bool.true_and, Bool.and_false, Bool.false_and, Bool.not_not, Int.cast_ofNat_Int, beq_self_eq_true, Heap.set_same, Heap.set_set, Heap.kill_kset, Int.toNat_natCast, Int.natCast_nonneg, Int.ofNat_lt, Int.ofNat_le, Int.natCast_inj, pmC, pmE, pmS, pmV, pmK, pmQ, pmL, pmX, pmF, pmO, pmA, pmR, pmW, pmB, Option.isSome_some, ft, olds_ints, olds_bools, ↓reduceIte, Nat.reduceEqDiff, reduceCtorEq, Nat.reduceAdd, Nat.reduceMul, Nat.reduceLeDiff, Nat.reduceLT, Int.reduceLE, Int.reduceLT, Int.reduceEq, Int.reduceToNat, Nat.zero_mul, Nat.zero_add, Nat.mul_one, ne_eq, not_false_eq_true, not_true_eq_false, true_and, and_true, decide_true, decide_false, Bool.not_true, Bool.not_false, Bool.false_eq_true, and_self, Nat.add_zero]
  refine pwp_up o.length (fun i σ h' => (∃ C : List Int, C.length = o.length ∧ h' = h.set b (C.map (.int .i64)) ∧ ∀ j, j < o.length → (0 ≤ C.getD j default ↔ (j : Int) ∈ o.take i)) ∧ permB o = permG o.length (o.take i) (o.drop i)
    ∧ σ 0 = .list false 1 o.length (o.map (.int .i64)) ∧ σ 4 = .buf b 1 0 o.length ∧ σ 11 = .list false 1 o.length (o.map (.int .i64)) ∧ σ 12 = .int .i64 o.length ∧ σ 13 = .int .i64 i) ?_ ?_
  · refine ⟨⟨List.replicate o.length (-1), by simp, rfl, fun j hj => ?_⟩, rfl, rfl, rfl, rfl, rfl, rfl⟩
    simp [List.getD, hj]
  rintro i σ h' K' hi ⟨⟨C, hC, rfl, hm⟩, hp, s0, s4, s11, s12, s13⟩ next
  rcases Nat.lt_or_ge i o.length with hlt | hge
  · have hw : IntKind.i64.wrap ((i : Int) + 1) = (i : Int) + 1 := wrap_in (by omega) (by omega)
    have hx := getm (PV.int .i64) o hlt
    rw [drop_getD o hlt] at hp
    have htk := take_next o hlt
    generalize o.getD i default = x at *
    by_cases h1 : x < 0
    · try simp only [s0, s4, s11, s12, s13, hx, hlt, h1, or_false, false_or, Bool.and_self, Bool.and_true, Bool.true_and, Bool.and_false, Bool.false_and, Bool.not_not, Int.cast_ofNat_Int, beq_self_eq_true, Heap.set_same, Heap.set_set, Heap.kill_kset, Int.toNat_natCast, Int.natCast_nonneg, Int.ofNat_lt, Int.ofNat_le, Int.natCast_inj, pmC, pmE, pmS, pmV, pmK, pmQ, pmL, pmX, pmF, pmO, pmA, pmR, pmW, pmB, Option.isSome_some, ft, olds_ints, olds_bools, ↓reduceIte, Nat.reduceEqDiff, reduceCtorEq, Nat.reduceAdd, Nat.reduceMul, Nat.reduceLeDiff, Nat.reduceLT, Int.reduceLE, Int.reduceLT, Int.reduceEq, Int.reduceToNat, Nat.zero_mul, Nat.zero_add, Nat.mul_one, ne_eq, not_false_eq_true, not_true_eq_false, true_and, and_true, decide_true, decide_false, Bool.not_true, Bool.not_false, Bool.false_eq_true, and_self, Nat.add_zero]
      exact (Acc.nil _ _ 1).fin2 (Heap.le_set (Heap.le_refl _) hb) (by simpa [hp, permG, show ¬ 0 ≤ x by omega, olds] using k [])
    by_cases h2 : (o.length : Int) ≤ x
    · try simp only [s0, s4, s11, s12, s13, hx, hlt, h1, h2, or_false, false_or, Bool.and_self, Bool.and_true, Bool.true_and, Bool.and_false, Bool.false_and, Bool.not_not, Int.cast_ofNat_Int, beq_self_eq_true, Heap.set_same, Heap.set_set, Heap.kill_kset, Int.toNat_natCast, Int.natCast_nonneg, Int.ofNat_lt, Int.ofNat_le, Int.natCast_inj, pmC, pmE, pmS, pmV, pmK, pmQ, pmL, pmX, pmF, pmO, pmA, pmR, pmW, pmB, Option.isSome_some, ft, olds_ints, olds_bools, ↓reduceIte, Nat.reduceEqDiff, reduceCtorEq, Nat.reduceAdd, Nat.reduceMul, Nat.reduceLeDiff, Nat.reduceLT, Int.reduceLE, Int.reduceLT, Int.reduceEq, Int.reduceToNat, Nat.zero_mul, Nat.zero_add, Nat.mul_one, ne_eq, not_false_eq_true, not_true_eq_false, true_and, and_true, decide_true, decide_false, Bool.not_true, Bool.not_false, Bool.false_eq_true, and_self, Nat.add_zero]
      exact (Acc.nil _ _ 1).fin2 (Heap.le_set (Heap.le_refl _) hb) (by simpa [hp, permG, show ¬ x < (o.length : Int) by omega, olds] using k [])
    obtain ⟨j, rfl⟩ : ∃ j : Nat, x = j := ⟨x.toNat, by omega⟩
    have hj : j < o.length := by omega
    have hcj := hm j hj
    have hy := getm (PV.int .i64) C (i := j) (by omega)
    have hjC : j < C.length := by omega
    have hCl : (C.map (PV.int .i64)).length = o.length := by simp [hC]
    by_cases h3 : 0 ≤ C.getD j default
    · generalize C.getD j default = y at *
      try simp only [s0, s4, s11, s12, s13, hx, hlt, h1, h2, hy, hj, hCl, h3, hC, or_false, false_or, Bool.and_self, Bool.and_true, Bool.true_and, Bool.and_false, Bool.false_and, Bool.not_not, Int.cast_ofNat_Int, beq_self_eq_true, Heap.set_same, Heap.set_set, Heap.kill_kset, Int.toNat_natCast, Int.natCast_nonneg, Int.ofNat_lt, Int.ofNat_le, Int.natCast_inj, pmC, pmE, pmS, pmV, pmK, pmQ, pmL, pmX, pmF, pmO, pmA, pmR, pmW, pmB, Option.isSome_some, ft, olds_ints, olds_bools, ↓reduceIte, Nat.reduceEqDiff, reduceCtorEq, Nat.reduceAdd, Nat.reduceMul, Nat.reduceLeDiff, Nat.reduceLT, Int.reduceLE, Int.reduceLT, Int.reduceEq, Int.reduceToNat, Nat.zero_mul, Nat.zero_add, Nat.mul_one, ne_eq, not_false_eq_true, not_true_eq_false, true_and, and_true, decide_true, decide_false, Bool.not_true, Bool.not_false, Bool.false_eq_true, and_self, Nat.add_zero]
      exact (Acc.nil _ _ 1).fin2 (Heap.le_set (Heap.le_refl _) hb) (by simpa [hp, permG, hcj.1 h3, olds] using k [])
    · have hnj : ¬ (j : Int) ∈ o.take i := fun e => h3 (hcj.2 e)
      have hws := wr_map (PV.int .i64) (i : Int) C hjC
      generalize C.getD j default = y at *
      try simp only [s0, s4, s11, s12, s13, hx, hlt, h1, h2, hy, hj, hCl, h3, hws, hC, or_false, false_or, Bool.and_self, Bool.and_true, Bool.true_and, Bool.and_false, Bool.false_and, Bool.not_not, Int.cast_ofNat_Int, beq_self_eq_true, Heap.set_same, Heap.set_set, Heap.kill_kset, Int.toNat_natCast, Int.natCast_nonneg, Int.ofNat_lt, Int.ofNat_le, Int.natCast_inj, pmC, pmE, pmS, pmV, pmK, pmQ, pmL, pmX, pmF, pmO, pmA, pmR, pmW, pmB, Option.isSome_some, ft, olds_ints, olds_bools, ↓reduceIte, Nat.reduceEqDiff, reduceCtorEq, Nat.reduceAdd, Nat.reduceMul, Nat.reduceLeDiff, Nat.reduceLT, Int.reduceLE, Int.reduceLT, Int.reduceEq, Int.reduceToNat, Nat.zero_mul, Nat.zero_add, Nat.mul_one, ne_eq, not_false_eq_true, not_true_eq_false, true_and, and_true, decide_true, decide_false, Bool.not_true, Bool.not_false, Bool.false_eq_true, and_self, Nat.add_zero]
      rw [hw]
      refine ⟨by omega, next hlt _ _ ?_⟩
      refine ⟨⟨C.set j i, by simp [hC], by simp, fun q hq => ?_⟩, ?_, by simp [put, s0], by simp [put, s4], by simp [put, s11], by simp [put, s12], by simp [put]⟩
      · rw [htk, List.mem_append, List.mem_singleton]
        by_cases hqj : q = j
        · subst hqj
          simp [List.getD, hjC]
        · have : (C.set j (i : Int)).getD q default = C.getD q default := by simp [List.getD, List.getElem?_set, Ne.symm hqj]
          rw [this, hm q hq]
          constructor
          · exact .inl
          · rintro (e | e)
            · exact e
            · omega
      · rw [hp, htk]
        simp [permG, hnj, hj]
  · have e : i = o.length := by omega
    subst e
    have hnl := Nat.lt_irrefl o.length
    have hCl : (C.map (PV.int .i64)).length = C.length * 1 := by simp
    try simp only [s4, s12, s13, hnl, or_false, false_or, Bool.and_self, Bool.and_true, Bool.true_and, Bool.and_false, Bool.false_and, Bool.not_not, Int.cast_ofNat_Int, beq_self_eq_true, Heap.set_same, Heap.set_set, Heap.kill_kset, Int.toNat_natCast, Int.natCast_nonneg, Int.ofNat_lt, Int.ofNat_le, Int.natCast_inj, pmC, pmE, pmS, pmV, pmK, pmQ, pmL, pmX, pmF, pmO, pmA, pmR, pmW, pmB, Option.isSome_some, ft, olds_ints, olds_bools, ↓reduceIte, Nat.reduceEqDiff, reduceCtorEq, Nat.reduceAdd, Nat.reduceMul, Nat.reduceLeDiff, Nat.reduceLT, Int.reduceLE, Int.reduceLT, Int.reduceEq, Int.reduceToNat, Nat.zero_mul, Nat.zero_add, Nat.mul_one, ne_eq, not_false_eq_true, not_true_eq_false, true_and, and_true, decide_true, decide_false, Bool.not_true, Bool.not_false, Bool.false_eq_true, and_self, Nat.add_zero]
    rw [← hC] at s4 ⊢
    refine (Acc.buf (E := 1) (n := C.length) hb (Heap.set_same _ _ _) hCl).fin2 (Heap.le_set (Heap.le_refl _) hb) ?_
    rw [olds_ints]
    rw [hp, List.drop_length] at k
    exact k C
theorem Permutes (fr : Bool) (o : List Int) (hl : o.length ≤ 1000000) (h : Heap) {K : PV → Heap → Prop} (k : K (.bool (permB o)) h) : CanP Try.prog 34 [.list fr 1 o.length (o.map (.int .i64))] h K := by
  refine e34 rfl ?_
  try simp only [c34, r34_0, r34_1, r34_2, or_false, false_or, Bool.and_self, Bool.and_true, Bool.true_and, Bool.and_false, Bool.false_and, Bool.not_not, Int.cast_ofNat_Int, beq_self_eq_true, Heap.set_same, Heap.set_set, Heap.kill_kset, Int.toNat_natCast, Int.natCast_nonneg, Int.ofNat_lt, Int.ofNat_le, Int.natCast_inj, pmC, pmE, pmS, pmV, pmK, pmQ, pmL, pmX, pmF, pmO, pmA, pmR, pmW, pmB, Option.isSome_some, ft, olds_ints, olds_bools, ↓reduceIte, Nat.reduceEqDiff, reduceCtorEq, Nat.reduceAdd, Nat.reduceMul, Nat.reduceLeDiff, Nat.reduceLT, Int.reduceLE, Int.reduceLT, Int.reduceEq, Int.reduceToNat, Nat.zero_mul, Nat.zero_add, Nat.mul_one, ne_eq, not_false_eq_true, not_true_eq_false, true_and, and_true, decide_true, decide_false, Bool.not_true, Bool.not_false, Bool.false_eq_true, and_self, Nat.add_zero]
  refine places _ o hl _ fun C => ?_
  try simp only [or_false, false_or, Bool.and_self, Bool.and_true, Bool.true_and, Bool.and_false, Bool.false_and, Bool.not_not, Int.cast_ofNat_Int, beq_self_eq_true, Heap.set_same, Heap.set_set, Heap.kill_kset, Int.toNat_natCast, Int.natCast_nonneg, Int.ofNat_lt, Int.ofNat_le, Int.natCast_inj, pmC, pmE, pmS, pmV, pmK, pmQ, pmL, pmX, pmF, pmO, pmA, pmR, pmW, pmB, Option.isSome_some, ft, olds_ints, olds_bools, ↓reduceIte, Nat.reduceEqDiff, reduceCtorEq, Nat.reduceAdd, Nat.reduceMul, Nat.reduceLeDiff, Nat.reduceLT, Int.reduceLE, Int.reduceLT, Int.reduceEq, Int.reduceToNat, Nat.zero_mul, Nat.zero_add, Nat.mul_one, ne_eq, not_false_eq_true, not_true_eq_false, true_and, and_true, decide_true, decide_false, Bool.not_true, Bool.not_false, Bool.false_eq_true, and_self, Nat.add_zero]
  exact finK_rf k
theorem PermutesR (fr : Bool) (o : List Int) (hl : o.length ≤ 1000000) (h : Heap) {K : PV → Heap → Prop} (k : K (.bool (permB o)) h) : CanP Try.prog 32 [.list fr 1 o.length (o.map (.int .i64))] h K := by
  refine e32 rfl ?_
  try simp only [c32, r32_0, r32_1, r32_2, r32_3, r32_4, r32_5, r32_6, r32_7, r32_8, r32_9, or_false, false_or, Bool.and_self, Bool.and_true, Bool.true_and, Bool.and_false, Bool.false_and, Bool.not_not, Int.cast_ofNat_Int, beq_self_eq_true, Heap.set_same, Heap.set_set, Heap.kill_kset, Int.toNat_natCast, Int.natCast_nonneg, Int.ofNat_lt, Int.ofNat_le, Int.natCast_inj, pmC, pmE, pmS, pmV, pmK, pmQ, pmL, pmX, pmF, pmO, pmA, pmR, pmW, pmB, Option.isSome_some, ft, olds_ints, olds_bools, ↓reduceIte, Nat.reduceEqDiff, reduceCtorEq, Nat.reduceAdd, Nat.reduceMul, Nat.reduceLeDiff, Nat.reduceLT, Int.reduceLE, Int.reduceLT, Int.reduceEq, Int.reduceToNat, Nat.zero_mul, Nat.zero_add, Nat.mul_one, ne_eq, not_false_eq_true, not_true_eq_false, true_and, and_true, decide_true, decide_false, Bool.not_true, Bool.not_false, Bool.false_eq_true, and_self, Nat.add_zero]
  refine ⟨Nat.le_refl _, by omega, by omega, fun b hb => ?_⟩
  try simp only [or_false, false_or, Bool.and_self, Bool.and_true, Bool.true_and, Bool.and_false, Bool.false_and, Bool.not_not, Int.cast_ofNat_Int, beq_self_eq_true, Heap.set_same, Heap.set_set, Heap.kill_kset, Int.toNat_natCast, Int.natCast_nonneg, Int.ofNat_lt, Int.ofNat_le, Int.natCast_inj, pmC, pmE, pmS, pmV, pmK, pmQ, pmL, pmX, pmF, pmO, pmA, pmR, pmW, pmB, Option.isSome_some, ft, olds_ints, olds_bools, ↓reduceIte, Nat.reduceEqDiff, reduceCtorEq, Nat.reduceAdd, Nat.reduceMul, Nat.reduceLeDiff, Nat.reduceLT, Int.reduceLE, Int.reduceLT, Int.reduceEq, Int.reduceToNat, Nat.zero_mul, Nat.zero_add, Nat.mul_one, ne_eq, not_false_eq_true, not_true_eq_false, true_and, and_true, decide_true, decide_false, Bool.not_true, Bool.not_false, Bool.false_eq_true, and_self, Nat.add_zero]
  have e0 : rep o.length [PV.bool false] = (List.replicate o.length false).map PV.bool := rep_map PV.bool false _
  rw [e0]
  refine pwp_up o.length (fun i σ h' => (∃ C : List Bool, C.length = o.length ∧ h' = h.set b (C.map .bool) ∧ ∀ j, j < o.length → (C.getD j default = true ↔ (j : Int) ∈ o.take i)) ∧ permB o = permG o.length (o.take i) (o.drop i)
    ∧ σ 0 = .list false 1 o.length (o.map (.int .i64)) ∧ σ 3 = .buf b 1 0 o.length ∧ σ 4 = .int .i64 i) ?_ ?_
  · refine ⟨⟨List.replicate o.length false, by simp, rfl, fun j hj => ?_⟩, rfl, rfl, rfl, rfl⟩
    simp [List.getD, hj]
  rintro i σ h' K' hi ⟨⟨C, hC, rfl, hm⟩, hp, s0, s3, s4⟩ next
  have lh : h.le (h.set b (C.map .bool)) := Heap.le_set (Heap.le_refl _) hb
  rcases Nat.lt_or_ge i o.length with hlt | hge
  · have hw : IntKind.i64.wrap ((i : Int) + 1) = (i : Int) + 1 := wrap_in (by omega) (by omega)
    have hx := getm (PV.int .i64) o hlt
    rw [drop_getD o hlt] at hp
    have htk := take_next o hlt
    generalize o.getD i default = x at *
    by_cases h1 : x < 0
    · try simp only [s0, s3, s4, hx, hlt, h1, or_false, false_or, Bool.and_self, Bool.and_true, Bool.true_and, Bool.and_false, Bool.false_and, Bool.not_not, Int.cast_ofNat_Int, beq_self_eq_true, Heap.set_same, Heap.set_set, Heap.kill_kset, Int.toNat_natCast, Int.natCast_nonneg, Int.ofNat_lt, Int.ofNat_le, Int.natCast_inj, pmC, pmE, pmS, pmV, pmK, pmQ, pmL, pmX, pmF, pmO, pmA, pmR, pmW, pmB, Option.isSome_some, ft, olds_ints, olds_bools, ↓reduceIte, Nat.reduceEqDiff, reduceCtorEq, Nat.reduceAdd, Nat.reduceMul, Nat.reduceLeDiff, Nat.reduceLT, Int.reduceLE, Int.reduceLT, Int.reduceEq, Int.reduceToNat, Nat.zero_mul, Nat.zero_add, Nat.mul_one, ne_eq, not_false_eq_true, not_true_eq_false, true_and, and_true, decide_true, decide_false, Bool.not_true, Bool.not_false, Bool.false_eq_true, and_self, Nat.add_zero]
      exact finK_le lh (by simpa [hp, permG, show ¬ 0 ≤ x by omega] using k)
    by_cases h2 : (o.length : Int) ≤ x
    · try simp only [s0, s3, s4, hx, hlt, h1, h2, or_false, false_or, Bool.and_self, Bool.and_true, Bool.true_and, Bool.and_false, Bool.false_and, Bool.not_not, Int.cast_ofNat_Int, beq_self_eq_true, Heap.set_same, Heap.set_set, Heap.kill_kset, Int.toNat_natCast, Int.natCast_nonneg, Int.ofNat_lt, Int.ofNat_le, Int.natCast_inj, pmC, pmE, pmS, pmV, pmK, pmQ, pmL, pmX, pmF, pmO, pmA, pmR, pmW, pmB, Option.isSome_some, ft, olds_ints, olds_bools, ↓reduceIte, Nat.reduceEqDiff, reduceCtorEq, Nat.reduceAdd, Nat.reduceMul, Nat.reduceLeDiff, Nat.reduceLT, Int.reduceLE, Int.reduceLT, Int.reduceEq, Int.reduceToNat, Nat.zero_mul, Nat.zero_add, Nat.mul_one, ne_eq, not_false_eq_true, not_true_eq_false, true_and, and_true, decide_true, decide_false, Bool.not_true, Bool.not_false, Bool.false_eq_true, and_self, Nat.add_zero]
      exact finK_le lh (by simpa [hp, permG, show ¬ x < (o.length : Int) by omega] using k)
    obtain ⟨j, rfl⟩ : ∃ j : Nat, x = j := ⟨x.toNat, by omega⟩
    have hj : j < o.length := by omega
    have hcj := hm j hj
    have hy := getm PV.bool C (i := j) (by omega)
    have hjC : j < C.length := by omega
    have hCl : (C.map PV.bool).length = o.length := by simp [hC]
    have hws := wr_map PV.bool true C hjC
    cases h3 : C.getD j default
    · have hnj : ¬ (j : Int) ∈ o.take i := fun e => by rw [hcj.2 e] at h3; cases h3
      rw [h3] at hy
      try simp only [s0, s3, s4, hx, hlt, h1, h2, hy, hj, hCl, hws, hC, or_false, false_or, Bool.and_self, Bool.and_true, Bool.true_and, Bool.and_false, Bool.false_and, Bool.not_not, Int.cast_ofNat_Int, beq_self_eq_true, Heap.set_same, Heap.set_set, Heap.kill_kset, Int.toNat_natCast, Int.natCast_nonneg, Int.ofNat_lt, Int.ofNat_le, Int.natCast_inj, pmC, pmE, pmS, pmV, pmK, pmQ, pmL, pmX, pmF, pmO, pmA, pmR, pmW, pmB, Option.isSome_some, ft, olds_ints, olds_bools, ↓reduceIte, Nat.reduceEqDiff, reduceCtorEq, Nat.reduceAdd, Nat.reduceMul, Nat.reduceLeDiff, Nat.reduceLT, Int.reduceLE, Int.reduceLT, Int.reduceEq, Int.reduceToNat, Nat.zero_mul, Nat.zero_add, Nat.mul_one, ne_eq, not_false_eq_true, not_true_eq_false, true_and, and_true, decide_true, decide_false, Bool.not_true, Bool.not_false, Bool.false_eq_true, and_self, Nat.add_zero]
      rw [hw]
      refine ⟨by omega, next hlt _ _ ?_⟩
      refine ⟨⟨C.set j true, by simp [hC], by simp, fun q hq => ?_⟩, ?_, by simp [put, s0], by simp [put, s3], by simp [put]⟩
      · rw [htk, List.mem_append, List.mem_singleton]
        by_cases hqj : q = j
        · subst hqj
          simp [List.getD, hjC]
        · have : (C.set j true).getD q default = C.getD q default := by simp [List.getD, List.getElem?_set, Ne.symm hqj]
          rw [this, hm q hq]
          constructor
          · exact .inl
          · rintro (e | e)
            · exact e
            · omega
      · rw [hp, htk]
        simp [permG, hnj, hj]
    · rw [h3] at hy
      try simp only [s0, s3, s4, hx, hlt, h1, h2, hy, hj, hCl, hC, or_false, false_or, Bool.and_self, Bool.and_true, Bool.true_and, Bool.and_false, Bool.false_and, Bool.not_not, Int.cast_ofNat_Int, beq_self_eq_true, Heap.set_same, Heap.set_set, Heap.kill_kset, Int.toNat_natCast, Int.natCast_nonneg, Int.ofNat_lt, Int.ofNat_le, Int.natCast_inj, pmC, pmE, pmS, pmV, pmK, pmQ, pmL, pmX, pmF, pmO, pmA, pmR, pmW, pmB, Option.isSome_some, ft, olds_ints, olds_bools, ↓reduceIte, Nat.reduceEqDiff, reduceCtorEq, Nat.reduceAdd, Nat.reduceMul, Nat.reduceLeDiff, Nat.reduceLT, Int.reduceLE, Int.reduceLT, Int.reduceEq, Int.reduceToNat, Nat.zero_mul, Nat.zero_add, Nat.mul_one, ne_eq, not_false_eq_true, not_true_eq_false, true_and, and_true, decide_true, decide_false, Bool.not_true, Bool.not_false, Bool.false_eq_true, and_self, Nat.add_zero]
      exact finK_le lh (by simpa [hp, permG, hcj.1 h3] using k)
  · have e : i = o.length := by omega
    subst e
    have hnl := Nat.lt_irrefl o.length
    try simp only [s0, s4, hnl, or_false, false_or, Bool.and_self, Bool.and_true, Bool.true_and, Bool.and_false, Bool.false_and, Bool.not_not, Int.cast_ofNat_Int, beq_self_eq_true, Heap.set_same, Heap.set_set, Heap.kill_kset, Int.toNat_natCast, Int.natCast_nonneg, Int.ofNat_lt, Int.ofNat_le, Int.natCast_inj, pmC, pmE, pmS, pmV, pmK, pmQ, pmL, pmX, pmF, pmO, pmA, pmR, pmW, pmB, Option.isSome_some, ft, olds_ints, olds_bools, ↓reduceIte, Nat.reduceEqDiff, reduceCtorEq, Nat.reduceAdd, Nat.reduceMul, Nat.reduceLeDiff, Nat.reduceLT, Int.reduceLE, Int.reduceLT, Int.reduceEq, Int.reduceToNat, Nat.zero_mul, Nat.zero_add, Nat.mul_one, ne_eq, not_false_eq_true, not_true_eq_false, true_and, and_true, decide_true, decide_false, Bool.not_true, Bool.not_false, Bool.false_eq_true, and_self, Nat.add_zero]
    exact finK_le lh (by rw [hp, List.drop_length] at k; exact k)
end Go.Proofs.Ythoggjdkabhpkaa
