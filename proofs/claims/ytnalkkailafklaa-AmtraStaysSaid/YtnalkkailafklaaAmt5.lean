/-
  Marks as they are drawn: the codes in that order, walked; what stays alike.
  Conditions: none but those that each sentence tells.
-/
import Derived.Test.YtnalkkailafklaaAmt4
namespace Go.Proofs.Ytnalkkailafklaa
open Go.Pm
set_option maxRecDepth 100000
set_option linter.unusedSimpArgs false
set_option linter.unusedVariables false

theorem takeF_perm (goes ends : Int → Bool) : ∀ (l : List Int) (e : Bool), ((takeF goes ends e l).1 ++ (takeF goes ends e l).2).Perm l
  | [], e => .nil
  | a :: l, e => by
    have ih := takeF_perm goes ends l (e || ends a)
    unfold takeF
    split
    · exact ih.cons a
    · exact List.perm_middle.trans (ih.cons a)
theorem movs_perm (f : Int → Int) (X : List Int) : ∀ (C l : List Int), ((movs f X C l).1 ++ (movs f X C l).2).Perm l
  | [], l => List.Perm.refl l
  | c :: cs, l => by
    simp only [movs, List.append_assoc]
    exact ((movs_perm f X cs _).append_left _).trans (takeF_perm _ _ l false)
theorem drawnP_perm (f : Int → Int) (X l : List Int) : (drawnP f X l).Perm l := by
  unfold drawnP
  rw [List.append_assoc]
  exact ((movs_perm f X _ _).append_left _).trans (takeF_perm _ _ l false)
/-- Which place stands where, and the codes so. -/
def amP (f : Int → Int) (X : List Int) : List Int := seg (drawnP f X) (isC f X 0) [] (placeT f X)
def amT (f : Int → Int) (X : List Int) : List Int := (amP f X).map fun p => X.getD p.toNat default
theorem amP_perm (f : Int → Int) (X : List Int) : (amP f X).Perm (placeT f X) := by
  have := seg_perm (drawnP f X) (isC f X 0) (drawnP_perm f X) (placeT f X) []
  simpa [amP] using this
theorem amP_len (f : Int → Int) (X : List Int) : (amP f X).length = X.length := (amP_perm f X).length_eq.trans (placeT_len f X)
theorem amT_len (f : Int → Int) (X : List Int) : (amT f X).length = X.length := by simp [amT, amP_len]
theorem amP_at (f : Int → Int) (X : List Int) {i : Nat} (hi : i < X.length) : 0 ≤ (amP f X).getD i default ∧ (amP f X).getD i default < X.length :=
  placeT_mem f X _ ((amP_perm f X).mem_iff.1 (get_mem _ (by rw [amP_len]; omega)))
theorem OrderA (v : PV) (f : Int → Int) (hv : CO v f) (fr : Bool) (X : List Int) (hl : X.length ≤ 1000000) (h : Heap)
    {K : PV → Heap → Prop} (k : K (.list true 1 X.length ((amT f X).map (.int .i64))) h) :
    CanP Try.prog 12 [v, .list fr 1 X.length (X.map (.int .i64))] h K := by
  refine e12 rfl ?_
  have hv' := hv.old
  try simp only [c12, r12_0, r12_1, r12_2, r12_3, r12_4, r12_5, r12_6, r12_7, or_false, false_or, Bool.and_self, Bool.and_true, Bool.true_and, Bool.and_false, Bool.false_and, Bool.not_not, Int.cast_ofNat_Int, beq_self_eq_true, Heap.set_same, Heap.set_set, Heap.kill_kset, Int.toNat_natCast, Int.natCast_nonneg, Int.ofNat_lt, Int.ofNat_le, Int.natCast_inj, pmC, pmE, pmS, pmV, pmK, pmQ, pmL, pmX, pmF, pmO, pmA, pmR, pmW, pmB, Option.isSome_some, ft, olds_ints, olds_bools, ↓reduceIte, Nat.reduceEqDiff, reduceCtorEq, Nat.reduceAdd, Nat.reduceMul, Nat.reduceLeDiff, Nat.reduceLT, Int.reduceLE, Int.reduceLT, Int.reduceEq, Int.reduceToNat, Nat.zero_mul, Nat.zero_add, Nat.mul_one, ne_eq, not_false_eq_true, not_true_eq_false, true_and, and_true, decide_true, decide_false, Bool.not_true, Bool.not_false, Bool.false_eq_true, and_self, Nat.add_zero]
  refine ⟨by omega, by omega, by omega, fun b hb => ?_⟩
  refine PlacesA _ f hv' false X hl _ ?_
  have hal := amP_len f X
  have htl := amT_len f X
  rw [← amP]
  try simp only [or_false, false_or, Bool.and_self, Bool.and_true, Bool.true_and, Bool.and_false, Bool.false_and, Bool.not_not, Int.cast_ofNat_Int, beq_self_eq_true, Heap.set_same, Heap.set_set, Heap.kill_kset, Int.toNat_natCast, Int.natCast_nonneg, Int.ofNat_lt, Int.ofNat_le, Int.natCast_inj, pmC, pmE, pmS, pmV, pmK, pmQ, pmL, pmX, pmF, pmO, pmA, pmR, pmW, pmB, Option.isSome_some, ft, olds_ints, olds_bools, ↓reduceIte, Nat.reduceEqDiff, reduceCtorEq, Nat.reduceAdd, Nat.reduceMul, Nat.reduceLeDiff, Nat.reduceLT, Int.reduceLE, Int.reduceLT, Int.reduceEq, Int.reduceToNat, Nat.zero_mul, Nat.zero_add, Nat.mul_one, ne_eq, not_false_eq_true, not_true_eq_false, true_and, and_true, decide_true, decide_false, Bool.not_true, Bool.not_false, Bool.false_eq_true, and_self, Nat.add_zero]
  refine pwp_up X.length (fun i σ h' => h' = h.set b (((amT f X).take i).map (PV.int .i64) ++ List.replicate ((amT f X).length - i) (PV.int .i64 0)) ∧ σ 1 = .list false 1 X.length (X.map (.int .i64)) ∧ σ 5 = .buf b 1 0 X.length ∧ σ 13 = .list true 1 X.length ((amP f X).map (.int .i64)) ∧ σ 14 = .int .i64 X.length ∧ σ 15 = .int .i64 i) ?_ ?_
  · refine ⟨?_, rfl, rfl, rfl, rfl, rfl⟩
    rw [rep_map (PV.int .i64) (0 : Int), htl, List.take_zero, List.map_nil, List.nil_append, Nat.sub_zero, List.map_replicate]
  rintro i σ h' K' hi ⟨rfl, s1, s5, s13, s14, s15⟩ next
  rcases Nat.lt_or_ge i X.length with hlt | hge
  · have hw : IntKind.i64.wrap ((i : Int) + 1) = (i : Int) + 1 := wrap_in (by omega) (by omega)
    have hx := getm (PV.int .i64) (amP f X) (i := i) (by omega)
    have hp := amP_at f X hlt
    have hf := fill_set (PV.int .i64) (PV.int .i64 0) (amT f X) (i := i) (by omega)
    have he : (amT f X).getD i default = X.getD ((amP f X).getD i default).toNat default := by
      unfold amT
      rw [List.getD, List.getElem?_map, List.getElem?_eq_getElem (by omega), List.getD, List.getD, List.getElem?_eq_getElem (by omega : i < (amP f X).length)]; rfl
    rw [he] at hf
    generalize (amP f X).getD i default = p at *
    have hy := getm (PV.int .i64) X (i := p.toNat) (by omega)
    have p0 := hp.1
    have p1 := hp.2
    have hlen : i < (((amT f X).take i).map (PV.int .i64) ++ List.replicate ((amT f X).length - i) (PV.int .i64 0)).length := by simp [htl]; omega
    try simp only [s1, s5, s13, s14, s15, hlt, hw, hx, hy, p0, p1, Heap.set_same, or_false, false_or, Bool.and_self, Bool.and_true, Bool.true_and, Bool.and_false, Bool.false_and, Bool.not_not, Int.cast_ofNat_Int, beq_self_eq_true, Heap.set_same, Heap.set_set, Heap.kill_kset, Int.toNat_natCast, Int.natCast_nonneg, Int.ofNat_lt, Int.ofNat_le, Int.natCast_inj, pmC, pmE, pmS, pmV, pmK, pmQ, pmL, pmX, pmF, pmO, pmA, pmR, pmW, pmB, Option.isSome_some, ft, olds_ints, olds_bools, ↓reduceIte, Nat.reduceEqDiff, reduceCtorEq, Nat.reduceAdd, Nat.reduceMul, Nat.reduceLeDiff, Nat.reduceLT, Int.reduceLE, Int.reduceLT, Int.reduceEq, Int.reduceToNat, Nat.zero_mul, Nat.zero_add, Nat.mul_one, ne_eq, not_false_eq_true, not_true_eq_false, true_and, and_true, decide_true, decide_false, Bool.not_true, Bool.not_false, Bool.false_eq_true, and_self, Nat.add_zero]
    refine ⟨hlen, next hlt _ _ ⟨?_, by simp [put, s1], by simp [put, s5], by simp [put, s13], by simp [put, s14], by simp [put]⟩⟩
    rw [wr_one hlen, hf]
  · have e : i = X.length := by omega
    subst e
    have hnl := Nat.lt_irrefl X.length
    try simp only [s5, s14, s15, hnl, or_false, false_or, Bool.and_self, Bool.and_true, Bool.true_and, Bool.and_false, Bool.false_and, Bool.not_not, Int.cast_ofNat_Int, beq_self_eq_true, Heap.set_same, Heap.set_set, Heap.kill_kset, Int.toNat_natCast, Int.natCast_nonneg, Int.ofNat_lt, Int.ofNat_le, Int.natCast_inj, pmC, pmE, pmS, pmV, pmK, pmQ, pmL, pmX, pmF, pmO, pmA, pmR, pmW, pmB, Option.isSome_some, ft, olds_ints, olds_bools, ↓reduceIte, Nat.reduceEqDiff, reduceCtorEq, Nat.reduceAdd, Nat.reduceMul, Nat.reduceLeDiff, Nat.reduceLT, Int.reduceLE, Int.reduceLT, Int.reduceEq, Int.reduceToNat, Nat.zero_mul, Nat.zero_add, Nat.mul_one, ne_eq, not_false_eq_true, not_true_eq_false, true_and, and_true, decide_true, decide_false, Bool.not_true, Bool.not_false, Bool.false_eq_true, and_self, Nat.add_zero]
    have e2 : ((amT f X).take X.length).map (PV.int .i64) ++ List.replicate ((amT f X).length - X.length) (PV.int .i64 0) = (amT f X).map (PV.int .i64) := by
      rw [htl, Nat.sub_self, List.take_of_length_le (by omega)]; simp
    rw [e2]
    have a : Acc h (h.set b ((amT f X).map (.int .i64))) (.buf b 1 0 X.length) 1 X.length ((amT f X).map (.int .i64)) := Acc.buf hb (Heap.set_same _ _ _) (by simp [htl])
    refine a.fin (Heap.le_set (Heap.le_refl _) hb) ?_
    rw [olds_ints]; exact k
end Go.Proofs.Ytnalkkailafklaa
