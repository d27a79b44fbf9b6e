/-
  Combining classes, on: what stands in each place.
  Conditions: none but those that each sentence tells.
-/
import Derived.Test.YtnalkkailafklaaCcc1
import Derived.Test.YtnalkkailafklaaIntsEq
namespace Go.Proofs.Ytnalkkailafklaa
open Go.Pm
set_option maxRecDepth 100000
set_option linter.unusedSimpArgs false
set_option linter.unusedVariables false

theorem rng_cons {a n : Nat} (h : a < n) : rng a n = (a : Int) :: rng (a + 1) n := by
  rw [rng_cut (b := a + 1) (by omega) (by omega), rng_succ (Nat.le_refl a), rng_self]; rfl
theorem rng_get {n i : Nat} (h : i < n) : (rng 0 n).getD i default = (i : Int) := by
  unfold rng
  rw [List.getD, List.getElem?_map, Nat.sub_zero, List.getElem?_range' h]
  simp
/-- How far it is done. -/
def rowI (f : Int → Int) (X : List Int) (i : Nat) : List Int := (fixP f X i).1 ++ rng (fixP f X i).2 X.length
theorem rowI_z (f : Int → Int) (X : List Int) {i : Nat} (hi : i < X.length) (hz : f (X.getD i default) = 0) : rowI f X (i + 1) = (fixP f X i).1 ++ srt (keyP f X) (rng (fixP f X i).2 i) ++ rng i X.length := by
  unfold rowI
  rw [show fixP f X (i + 1) = ((fixP f X i).1 ++ srt (keyP f X) (rng (fixP f X i).2 i) ++ [(i : Int)], i + 1) by rw [fixP, if_pos hz]]
  rw [rng_cons hi]; simp
theorem rowI_nz (f : Int → Int) (X : List Int) {i : Nat} (hz : f (X.getD i default) ≠ 0) : fixP f X (i + 1) = fixP f X i := by rw [fixP, if_neg hz]
theorem rows (v : PV) (f : Int → Int) (hv : CO v f) (hv2 : v.old = v) (X : List Int) (hl : X.length ≤ 1000000) (b : Nat) (h : Heap) (hb : h.f b = some ((rng 0 X.length).map (.int .i64)))
    {K : PV → Heap → Prop} (k : K (.tup []) (h.set b ((placeT f X).map (.int .i64)))) :
    CanP Try.prog 36 [v, .list false 1 X.length (X.map (.int .i64)), .fn 37 [] [.fptr false [.buf b 1 0 X.length] 0, .fptr true [v] 0, .fptr true [.list false 1 X.length (X.map (.int .i64))] 0]] h K := by
  refine e36 rfl ?_
  try simp only [c36, r36_0, r36_1, r36_2, r36_3, r36_4, r36_5, r36_6, r36_7, r36_8, hv2, or_false, false_or, Bool.and_self, Bool.and_true, Bool.true_and, Bool.and_false, Bool.false_and, Bool.not_not, Int.cast_ofNat_Int, beq_self_eq_true, Heap.set_same, Heap.set_set, Heap.kill_kset, Int.toNat_natCast, Int.natCast_nonneg, Int.ofNat_lt, Int.ofNat_le, Int.natCast_inj, pmC, pmE, pmS, pmV, pmK, pmQ, pmL, pmX, pmF, pmO, pmA, pmR, pmW, pmB, Option.isSome_some, ft, olds_ints, olds_bools, ↓reduceIte, Nat.reduceEqDiff, reduceCtorEq, Nat.reduceAdd, Nat.reduceMul, Nat.reduceLeDiff, Nat.reduceLT, Int.reduceLE, Int.reduceLT, Int.reduceEq, Int.reduceToNat, Nat.zero_mul, Nat.zero_add, Nat.mul_one, ne_eq, not_false_eq_true, not_true_eq_false, true_and, and_true, decide_true, decide_false, Bool.not_true, Bool.not_false, Bool.false_eq_true, and_self, Nat.add_zero]
  refine pwp_up X.length (fun i σ h' => h' = h.set b ((rowI f X i).map (.int .i64)) ∧ σ 0 = v ∧ σ 1 = .list false 1 X.length (X.map (.int .i64)) ∧ σ 2 = .fn 37 [] [.fptr false [.buf b 1 0 X.length] 0, .fptr false [v] 0, .fptr false [.list false 1 X.length (X.map (.int .i64))] 0] ∧ σ 6 = .int .i64 (fixP f X i).2 ∧ σ 9 = .list false 1 X.length (X.map (.int .i64)) ∧ σ 10 = .int .i64 X.length ∧ σ 11 = .int .i64 i) ?_ ?_
  · refine ⟨?_, rfl, rfl, rfl, rfl, rfl, rfl, rfl⟩
    exact (Heap.set_self hb).symm
  rintro i σ h' K' hi ⟨rfl, s0, s1, s2, s6, s9, s10, s11⟩ next
  have hlen := fixP_len f X i
  rcases Nat.lt_or_ge i X.length with hlt | hge
  · have hx := getm (.int .i64) X hlt
    have hw : IntKind.i64.wrap ((i : Int) + 1) = (i : Int) + 1 := wrap_in (by omega) (by omega)
    try simp only [s0, s9, s10, s11, hx, hlt, or_false, false_or, Bool.and_self, Bool.and_true, Bool.true_and, Bool.and_false, Bool.false_and, Bool.not_not, Int.cast_ofNat_Int, beq_self_eq_true, Heap.set_same, Heap.set_set, Heap.kill_kset, Int.toNat_natCast, Int.natCast_nonneg, Int.ofNat_lt, Int.ofNat_le, Int.natCast_inj, pmC, pmE, pmS, pmV, pmK, pmQ, pmL, pmX, pmF, pmO, pmA, pmR, pmW, pmB, Option.isSome_some, ft, olds_ints, olds_bools, ↓reduceIte, Nat.reduceEqDiff, reduceCtorEq, Nat.reduceAdd, Nat.reduceMul, Nat.reduceLeDiff, Nat.reduceLT, Int.reduceLE, Int.reduceLT, Int.reduceEq, Int.reduceToNat, Nat.zero_mul, Nat.zero_add, Nat.mul_one, ne_eq, not_false_eq_true, not_true_eq_false, true_and, and_true, decide_true, decide_false, Bool.not_true, Bool.not_false, Bool.false_eq_true, and_self, Nat.add_zero]
    refine Of _ _ hv _ _ ?_
    by_cases hz : f (X.getD i default) = 0
    · try simp only [hz, s2, s6, or_false, false_or, Bool.and_self, Bool.and_true, Bool.true_and, Bool.and_false, Bool.false_and, Bool.not_not, Int.cast_ofNat_Int, beq_self_eq_true, Heap.set_same, Heap.set_set, Heap.kill_kset, Int.toNat_natCast, Int.natCast_nonneg, Int.ofNat_lt, Int.ofNat_le, Int.natCast_inj, pmC, pmE, pmS, pmV, pmK, pmQ, pmL, pmX, pmF, pmO, pmA, pmR, pmW, pmB, Option.isSome_some, ft, olds_ints, olds_bools, ↓reduceIte, Nat.reduceEqDiff, reduceCtorEq, Nat.reduceAdd, Nat.reduceMul, Nat.reduceLeDiff, Nat.reduceLT, Int.reduceLE, Int.reduceLT, Int.reduceEq, Int.reduceToNat, Nat.zero_mul, Nat.zero_add, Nat.mul_one, ne_eq, not_false_eq_true, not_true_eq_false, true_and, and_true, decide_true, decide_false, Bool.not_true, Bool.not_false, Bool.false_eq_true, and_self, Nat.add_zero]
      refine Places1 v f hv hv2 X hl b (fixP f X i).1 (rng (fixP f X i).2 i) (rng i X.length) _ _ hlen.1.symm (by rw [rng_len]; omega) (by rw [rng_len, rng_len]; omega) (fun a ha => by obtain ⟨j, rfl, _, _⟩ := rng_mem ha; omega) _ (by rw [Heap.set_same, List.append_assoc, ← rng_cut hlen.2 hi]; rfl) ?_
      try simp only [s11, hw, or_false, false_or, Bool.and_self, Bool.and_true, Bool.true_and, Bool.and_false, Bool.false_and, Bool.not_not, Int.cast_ofNat_Int, beq_self_eq_true, Heap.set_same, Heap.set_set, Heap.kill_kset, Int.toNat_natCast, Int.natCast_nonneg, Int.ofNat_lt, Int.ofNat_le, Int.natCast_inj, pmC, pmE, pmS, pmV, pmK, pmQ, pmL, pmX, pmF, pmO, pmA, pmR, pmW, pmB, Option.isSome_some, ft, olds_ints, olds_bools, ↓reduceIte, Nat.reduceEqDiff, reduceCtorEq, Nat.reduceAdd, Nat.reduceMul, Nat.reduceLeDiff, Nat.reduceLT, Int.reduceLE, Int.reduceLT, Int.reduceEq, Int.reduceToNat, Nat.zero_mul, Nat.zero_add, Nat.mul_one, ne_eq, not_false_eq_true, not_true_eq_false, true_and, and_true, decide_true, decide_false, Bool.not_true, Bool.not_false, Bool.false_eq_true, and_self, Nat.add_zero]
      rw [← rowI_z f X hlt hz]
      exact next hlt _ _ ⟨rfl, by simp [put, s0], by simp [put, s1], by simp [put, s2], by simp only [fixP, if_pos hz]; simp [put], by simp [put, s9], by simp [put, s10], by simp [put]⟩
    · try simp only [hz, s11, hw, or_false, false_or, Bool.and_self, Bool.and_true, Bool.true_and, Bool.and_false, Bool.false_and, Bool.not_not, Int.cast_ofNat_Int, beq_self_eq_true, Heap.set_same, Heap.set_set, Heap.kill_kset, Int.toNat_natCast, Int.natCast_nonneg, Int.ofNat_lt, Int.ofNat_le, Int.natCast_inj, pmC, pmE, pmS, pmV, pmK, pmQ, pmL, pmX, pmF, pmO, pmA, pmR, pmW, pmB, Option.isSome_some, ft, olds_ints, olds_bools, ↓reduceIte, Nat.reduceEqDiff, reduceCtorEq, Nat.reduceAdd, Nat.reduceMul, Nat.reduceLeDiff, Nat.reduceLT, Int.reduceLE, Int.reduceLT, Int.reduceEq, Int.reduceToNat, Nat.zero_mul, Nat.zero_add, Nat.mul_one, ne_eq, not_false_eq_true, not_true_eq_false, true_and, and_true, decide_true, decide_false, Bool.not_true, Bool.not_false, Bool.false_eq_true, and_self, Nat.add_zero]
      refine next hlt _ _ ⟨by rw [rowI, rowI, rowI_nz f X hz], by simp [put, s0], by simp [put, s1], by simp [put, s2], by simp [put, s6, rowI_nz f X hz], by simp [put, s9], by simp [put, s10], by simp [put]⟩
  · have e : i = X.length := by omega
    subst e
    have hnl := Nat.lt_irrefl X.length
    try simp only [s10, s11, s2, s6, s1, hnl, or_false, false_or, Bool.and_self, Bool.and_true, Bool.true_and, Bool.and_false, Bool.false_and, Bool.not_not, Int.cast_ofNat_Int, beq_self_eq_true, Heap.set_same, Heap.set_set, Heap.kill_kset, Int.toNat_natCast, Int.natCast_nonneg, Int.ofNat_lt, Int.ofNat_le, Int.natCast_inj, pmC, pmE, pmS, pmV, pmK, pmQ, pmL, pmX, pmF, pmO, pmA, pmR, pmW, pmB, Option.isSome_some, ft, olds_ints, olds_bools, ↓reduceIte, Nat.reduceEqDiff, reduceCtorEq, Nat.reduceAdd, Nat.reduceMul, Nat.reduceLeDiff, Nat.reduceLT, Int.reduceLE, Int.reduceLT, Int.reduceEq, Int.reduceToNat, Nat.zero_mul, Nat.zero_add, Nat.mul_one, ne_eq, not_false_eq_true, not_true_eq_false, true_and, and_true, decide_true, decide_false, Bool.not_true, Bool.not_false, Bool.false_eq_true, and_self, Nat.add_zero]
    have q1 : X.length = (fixP f X X.length).1.length + (rng (fixP f X X.length).2 X.length).length := by rw [rng_len]; omega
    refine Places1 v f hv hv2 X hl b (fixP f X X.length).1 (rng (fixP f X X.length).2 X.length) [] _ _ hlen.1.symm q1 q1.symm (fun a ha => by obtain ⟨j, rfl, _, _⟩ := rng_mem ha; omega) (h.set b ((rowI f X X.length).map (.int .i64))) (by rw [Heap.set_same, List.append_nil]; rfl) ?_
    try simp only [or_false, false_or, Bool.and_self, Bool.and_true, Bool.true_and, Bool.and_false, Bool.false_and, Bool.not_not, Int.cast_ofNat_Int, beq_self_eq_true, Heap.set_same, Heap.set_set, Heap.kill_kset, Int.toNat_natCast, Int.natCast_nonneg, Int.ofNat_lt, Int.ofNat_le, Int.natCast_inj, pmC, pmE, pmS, pmV, pmK, pmQ, pmL, pmX, pmF, pmO, pmA, pmR, pmW, pmB, Option.isSome_some, ft, olds_ints, olds_bools, ↓reduceIte, Nat.reduceEqDiff, reduceCtorEq, Nat.reduceAdd, Nat.reduceMul, Nat.reduceLeDiff, Nat.reduceLT, Int.reduceLE, Int.reduceLT, Int.reduceEq, Int.reduceToNat, Nat.zero_mul, Nat.zero_add, Nat.mul_one, ne_eq, not_false_eq_true, not_true_eq_false, true_and, and_true, decide_true, decide_false, Bool.not_true, Bool.not_false, Bool.false_eq_true, and_self, Nat.add_zero]
    exact finK_rf k
theorem Places (v : PV) (f : Int → Int) (hv : CO v f) (fr : Bool) (X : List Int) (hl : X.length ≤ 1000000) (h : Heap)
    {K : PV → Heap → Prop} (k : K (.list true 1 X.length ((placeT f X).map (.int .i64))) h) :
    CanP Try.prog 24 [v, .list fr 1 X.length (X.map (.int .i64))] h K := by
  refine e24 rfl ?_
  have hv' := hv.old
  have hv2 := hv.old2
  try simp only [c24, r24_0, r24_1, r24_2, r24_3, r24_4, r24_5, r24_6, r24_7, r24_8, hv'.flat, or_false, false_or, Bool.and_self, Bool.and_true, Bool.true_and, Bool.and_false, Bool.false_and, Bool.not_not, Int.cast_ofNat_Int, beq_self_eq_true, Heap.set_same, Heap.set_set, Heap.kill_kset, Int.toNat_natCast, Int.natCast_nonneg, Int.ofNat_lt, Int.ofNat_le, Int.natCast_inj, pmC, pmE, pmS, pmV, pmK, pmQ, pmL, pmX, pmF, pmO, pmA, pmR, pmW, pmB, Option.isSome_some, ft, olds_ints, olds_bools, ↓reduceIte, Nat.reduceEqDiff, reduceCtorEq, Nat.reduceAdd, Nat.reduceMul, Nat.reduceLeDiff, Nat.reduceLT, Int.reduceLE, Int.reduceLT, Int.reduceEq, Int.reduceToNat, Nat.zero_mul, Nat.zero_add, Nat.mul_one, ne_eq, not_false_eq_true, not_true_eq_false, true_and, and_true, decide_true, decide_false, Bool.not_true, Bool.not_false, Bool.false_eq_true, and_self, Nat.add_zero]
  refine ⟨by omega, by omega, by omega, fun b hb b1 hb1 => ?_⟩
  have hne : b1 ≠ b := fun e => by rw [e, Heap.set_same] at hb1; cases hb1
  refine pwp_up X.length (fun i σ h' => h' = h.set b (((rng 0 X.length).take i).map (PV.int .i64) ++ List.replicate ((rng 0 X.length).length - i) (PV.int .i64 0)) ∧ σ 2 = .fptr true [v.old] 0 ∧ σ 3 = .fptr true [.list false 1 X.length (X.map (.int .i64))] 0 ∧ σ 5 = .fptr false [.buf b 1 0 X.length] 0 ∧ σ 11 = .int .i64 X.length ∧ σ 12 = .int .i64 i) ?_ ?_
  · refine ⟨?_, rfl, rfl, rfl, rfl, rfl⟩
    rw [rep_map (PV.int .i64) (0 : Int), rng_len, List.take_zero, List.map_nil, List.nil_append, Nat.sub_zero, Nat.sub_zero, List.map_replicate]
    exact Heap.kill_none (by rw [Heap.set_ne _ _ hne] at hb1 ⊢; exact hb1)
  rintro i σ h' K' hi ⟨rfl, s2, s3, s5, s11, s12⟩ next
  rcases Nat.lt_or_ge i X.length with hlt | hge
  · have hw : IntKind.i64.wrap ((i : Int) + 1) = (i : Int) + 1 := wrap_in (by omega) (by omega)
    have hf := fill_set (PV.int .i64) (PV.int .i64 0) (rng 0 X.length) (i := i) (by rw [rng_len]; omega)
    rw [rng_get (by omega)] at hf
    have hlen : i < (((rng 0 X.length).take i).map (PV.int .i64) ++ List.replicate ((rng 0 X.length).length - i) (PV.int .i64 0)).length := by simp [rng_len]; omega
    try simp only [s5, s11, s12, hlt, hw, Heap.set_same, or_false, false_or, Bool.and_self, Bool.and_true, Bool.true_and, Bool.and_false, Bool.false_and, Bool.not_not, Int.cast_ofNat_Int, beq_self_eq_true, Heap.set_same, Heap.set_set, Heap.kill_kset, Int.toNat_natCast, Int.natCast_nonneg, Int.ofNat_lt, Int.ofNat_le, Int.natCast_inj, pmC, pmE, pmS, pmV, pmK, pmQ, pmL, pmX, pmF, pmO, pmA, pmR, pmW, pmB, Option.isSome_some, ft, olds_ints, olds_bools, ↓reduceIte, Nat.reduceEqDiff, reduceCtorEq, Nat.reduceAdd, Nat.reduceMul, Nat.reduceLeDiff, Nat.reduceLT, Int.reduceLE, Int.reduceLT, Int.reduceEq, Int.reduceToNat, Nat.zero_mul, Nat.zero_add, Nat.mul_one, ne_eq, not_false_eq_true, not_true_eq_false, true_and, and_true, decide_true, decide_false, Bool.not_true, Bool.not_false, Bool.false_eq_true, and_self, Nat.add_zero]
    refine ⟨hlen, next hlt _ _ ⟨?_, by simp [put, s2], by simp [put, s3], by simp [put, s5], by simp [put, s11], by simp [put]⟩⟩
    rw [wr_one hlen, hf]
  · have e : i = X.length := by omega
    subst e
    have e2 : ((rng 0 X.length).take X.length).map (PV.int .i64) ++ List.replicate ((rng 0 X.length).length - X.length) (PV.int .i64 0) = (rng 0 X.length).map (PV.int .i64) := by
      rw [rng_len, Nat.sub_zero, Nat.sub_self, List.take_of_length_le (by rw [rng_len]; omega)]; simp
    rw [e2]
    have hnl := Nat.lt_irrefl X.length
    try simp only [s2, s3, s5, s11, s12, hnl, hv2, or_false, false_or, Bool.and_self, Bool.and_true, Bool.true_and, Bool.and_false, Bool.false_and, Bool.not_not, Int.cast_ofNat_Int, beq_self_eq_true, Heap.set_same, Heap.set_set, Heap.kill_kset, Int.toNat_natCast, Int.natCast_nonneg, Int.ofNat_lt, Int.ofNat_le, Int.natCast_inj, pmC, pmE, pmS, pmV, pmK, pmQ, pmL, pmX, pmF, pmO, pmA, pmR, pmW, pmB, Option.isSome_some, ft, olds_ints, olds_bools, ↓reduceIte, Nat.reduceEqDiff, reduceCtorEq, Nat.reduceAdd, Nat.reduceMul, Nat.reduceLeDiff, Nat.reduceLT, Int.reduceLE, Int.reduceLT, Int.reduceEq, Int.reduceToNat, Nat.zero_mul, Nat.zero_add, Nat.mul_one, ne_eq, not_false_eq_true, not_true_eq_false, true_and, and_true, decide_true, decide_false, Bool.not_true, Bool.not_false, Bool.false_eq_true, and_self, Nat.add_zero]
    refine rows v.old f hv' hv2 X hl b _ (Heap.set_same _ _ _) ?_
    try simp only [s5, or_false, false_or, Bool.and_self, Bool.and_true, Bool.true_and, Bool.and_false, Bool.false_and, Bool.not_not, Int.cast_ofNat_Int, beq_self_eq_true, Heap.set_same, Heap.set_set, Heap.kill_kset, Int.toNat_natCast, Int.natCast_nonneg, Int.ofNat_lt, Int.ofNat_le, Int.natCast_inj, pmC, pmE, pmS, pmV, pmK, pmQ, pmL, pmX, pmF, pmO, pmA, pmR, pmW, pmB, Option.isSome_some, ft, olds_ints, olds_bools, ↓reduceIte, Nat.reduceEqDiff, reduceCtorEq, Nat.reduceAdd, Nat.reduceMul, Nat.reduceLeDiff, Nat.reduceLT, Int.reduceLE, Int.reduceLT, Int.reduceEq, Int.reduceToNat, Nat.zero_mul, Nat.zero_add, Nat.mul_one, ne_eq, not_false_eq_true, not_true_eq_false, true_and, and_true, decide_true, decide_false, Bool.not_true, Bool.not_false, Bool.false_eq_true, and_self, Nat.add_zero]
    have a : Acc h (h.set b ((placeT f X).map (.int .i64))) (.buf b 1 0 X.length) 1 X.length ((placeT f X).map (.int .i64)) := Acc.buf hb (Heap.set_same _ _ _) (by simp [placeT_len])
    refine a.fin (Heap.le_set (Heap.le_refl _) hb) ?_
    rw [olds_ints]; exact k
/-- The codes so. -/
def ordT (f : Int → Int) (X : List Int) : List Int := (placeT f X).map (fun p => X.getD p.toNat default)
theorem placeT_at (f : Int → Int) (X : List Int) {i : Nat} (hi : i < X.length) : 0 ≤ (placeT f X).getD i default ∧ (placeT f X).getD i default < X.length := by
  have hl := placeT_len f X
  have h2 : i < (placeT f X).length := by omega
  have e : (placeT f X).getD i default = (placeT f X)[i] := by simp [List.getD, h2]
  rw [e]
  exact placeT_mem f X _ (List.getElem_mem h2)
theorem Order (v : PV) (f : Int → Int) (hv : CO v f) (fr : Bool) (X : List Int) (hl : X.length ≤ 1000000) (h : Heap)
    {K : PV → Heap → Prop} (k : K (.list true 1 X.length ((ordT f X).map (.int .i64))) h) :
    CanP Try.prog 16 [v, .list fr 1 X.length (X.map (.int .i64))] h K := by
  refine e16 rfl ?_
  have hv' := hv.old
  try simp only [c16, r16_0, r16_1, r16_2, r16_3, r16_4, r16_5, r16_6, r16_7, or_false, false_or, Bool.and_self, Bool.and_true, Bool.true_and, Bool.and_false, Bool.false_and, Bool.not_not, Int.cast_ofNat_Int, beq_self_eq_true, Heap.set_same, Heap.set_set, Heap.kill_kset, Int.toNat_natCast, Int.natCast_nonneg, Int.ofNat_lt, Int.ofNat_le, Int.natCast_inj, pmC, pmE, pmS, pmV, pmK, pmQ, pmL, pmX, pmF, pmO, pmA, pmR, pmW, pmB, Option.isSome_some, ft, olds_ints, olds_bools, ↓reduceIte, Nat.reduceEqDiff, reduceCtorEq, Nat.reduceAdd, Nat.reduceMul, Nat.reduceLeDiff, Nat.reduceLT, Int.reduceLE, Int.reduceLT, Int.reduceEq, Int.reduceToNat, Nat.zero_mul, Nat.zero_add, Nat.mul_one, ne_eq, not_false_eq_true, not_true_eq_false, true_and, and_true, decide_true, decide_false, Bool.not_true, Bool.not_false, Bool.false_eq_true, and_self, Nat.add_zero]
  refine ⟨by omega, by omega, fun b hb => ?_⟩
  refine Places _ f hv' false X hl _ ?_
  try simp only [or_false, false_or, Bool.and_self, Bool.and_true, Bool.true_and, Bool.and_false, Bool.false_and, Bool.not_not, Int.cast_ofNat_Int, beq_self_eq_true, Heap.set_same, Heap.set_set, Heap.kill_kset, Int.toNat_natCast, Int.natCast_nonneg, Int.ofNat_lt, Int.ofNat_le, Int.natCast_inj, pmC, pmE, pmS, pmV, pmK, pmQ, pmL, pmX, pmF, pmO, pmA, pmR, pmW, pmB, Option.isSome_some, ft, olds_ints, olds_bools, ↓reduceIte, Nat.reduceEqDiff, reduceCtorEq, Nat.reduceAdd, Nat.reduceMul, Nat.reduceLeDiff, Nat.reduceLT, Int.reduceLE, Int.reduceLT, Int.reduceEq, Int.reduceToNat, Nat.zero_mul, Nat.zero_add, Nat.mul_one, ne_eq, not_false_eq_true, not_true_eq_false, true_and, and_true, decide_true, decide_false, Bool.not_true, Bool.not_false, Bool.false_eq_true, and_self, Nat.add_zero]
  have hpl := placeT_len f X
  refine pwp_up X.length (fun i σ h' => (∃ u, Acc h h' u 1 i (((placeT f X).take i).map (fun p => PV.int .i64 (X.getD p.toNat default))) ∧ σ 5 = u) ∧ h.le h' ∧ σ 1 = .list false 1 X.length (X.map (.int .i64)) ∧ σ 13 = .list true 1 X.length ((placeT f X).map (.int .i64)) ∧ σ 14 = .int .i64 X.length ∧ σ 15 = .int .i64 i) ?_ ?_
  · exact ⟨⟨_, Acc.buf hb (Heap.set_same _ _ _) rfl, rfl⟩, Heap.le_set (Heap.le_refl _) hb, rfl, rfl, rfl, rfl⟩
  rintro i σ h' K' hi ⟨⟨u, a, s5⟩, lh, s1, s13, s14, s15⟩ next
  rcases Nat.lt_or_ge i X.length with hlt | hge
  · have hw : IntKind.i64.wrap ((i : Int) + 1) = (i : Int) + 1 := wrap_in (by omega) (by omega)
    have hx := getm (.int .i64) (placeT f X) (i := i) (by omega)
    have hp := placeT_at f X hlt
    have htk := take_succ_map (fun p => PV.int .i64 (X.getD p.toNat default)) (placeT f X) (i := i) (by omega)
    generalize (placeT f X).getD i default = p at *
    have hy := getm (.int .i64) X (i := p.toNat) (by omega)
    have p0 := hp.1
    have p1 := hp.2
    try simp only [s1, s5, s13, s14, s15, hlt, hw, hx, hy, p0, p1, or_false, false_or, Bool.and_self, Bool.and_true, Bool.true_and, Bool.and_false, Bool.false_and, Bool.not_not, Int.cast_ofNat_Int, beq_self_eq_true, Heap.set_same, Heap.set_set, Heap.kill_kset, Int.toNat_natCast, Int.natCast_nonneg, Int.ofNat_lt, Int.ofNat_le, Int.natCast_inj, pmC, pmE, pmS, pmV, pmK, pmQ, pmL, pmX, pmF, pmO, pmA, pmR, pmW, pmB, Option.isSome_some, ft, olds_ints, olds_bools, ↓reduceIte, Nat.reduceEqDiff, reduceCtorEq, Nat.reduceAdd, Nat.reduceMul, Nat.reduceLeDiff, Nat.reduceLT, Int.reduceLE, Int.reduceLT, Int.reduceEq, Int.reduceToNat, Nat.zero_mul, Nat.zero_add, Nat.mul_one, ne_eq, not_false_eq_true, not_true_eq_false, true_and, and_true, decide_true, decide_false, Bool.not_true, Bool.not_false, Bool.false_eq_true, and_self, Nat.add_zero]
    refine a.app lh (by decide) rfl (by omega) (by simp only [maxLen]; omega) fun v' h3 a' l' sd => ?_
    try simp only [s15, hw, or_false, false_or, Bool.and_self, Bool.and_true, Bool.true_and, Bool.and_false, Bool.false_and, Bool.not_not, Int.cast_ofNat_Int, beq_self_eq_true, Heap.set_same, Heap.set_set, Heap.kill_kset, Int.toNat_natCast, Int.natCast_nonneg, Int.ofNat_lt, Int.ofNat_le, Int.natCast_inj, pmC, pmE, pmS, pmV, pmK, pmQ, pmL, pmX, pmF, pmO, pmA, pmR, pmW, pmB, Option.isSome_some, ft, olds_ints, olds_bools, ↓reduceIte, Nat.reduceEqDiff, reduceCtorEq, Nat.reduceAdd, Nat.reduceMul, Nat.reduceLeDiff, Nat.reduceLT, Int.reduceLE, Int.reduceLT, Int.reduceEq, Int.reduceToNat, Nat.zero_mul, Nat.zero_add, Nat.mul_one, ne_eq, not_false_eq_true, not_true_eq_false, true_and, and_true, decide_true, decide_false, Bool.not_true, Bool.not_false, Bool.false_eq_true, and_self, Nat.add_zero]
    refine next hlt _ _ ⟨⟨_, ?_, rfl⟩, l', by simp [put, s1], by simp [put, s13], by simp [put, s14], by simp [put]⟩
    rw [htk]
    exact a'
  · have e : i = X.length := by omega
    subst e
    have hnl := Nat.lt_irrefl X.length
    try simp only [s5, s14, s15, hnl, or_false, false_or, Bool.and_self, Bool.and_true, Bool.true_and, Bool.and_false, Bool.false_and, Bool.not_not, Int.cast_ofNat_Int, beq_self_eq_true, Heap.set_same, Heap.set_set, Heap.kill_kset, Int.toNat_natCast, Int.natCast_nonneg, Int.ofNat_lt, Int.ofNat_le, Int.natCast_inj, pmC, pmE, pmS, pmV, pmK, pmQ, pmL, pmX, pmF, pmO, pmA, pmR, pmW, pmB, Option.isSome_some, ft, olds_ints, olds_bools, ↓reduceIte, Nat.reduceEqDiff, reduceCtorEq, Nat.reduceAdd, Nat.reduceMul, Nat.reduceLeDiff, Nat.reduceLT, Int.reduceLE, Int.reduceLT, Int.reduceEq, Int.reduceToNat, Nat.zero_mul, Nat.zero_add, Nat.mul_one, ne_eq, not_false_eq_true, not_true_eq_false, true_and, and_true, decide_true, decide_false, Bool.not_true, Bool.not_false, Bool.false_eq_true, and_self, Nat.add_zero]
    refine a.fin lh ?_
    rw [List.take_of_length_le (by omega)]
    have : ((placeT f X).map (fun p => PV.int .i64 (X.getD p.toNat default))) = (ordT f X).map (.int .i64) := by simp [ordT]
    rw [this, olds_ints]; exact k
end Go.Proofs.Ytnalkkailafklaa
