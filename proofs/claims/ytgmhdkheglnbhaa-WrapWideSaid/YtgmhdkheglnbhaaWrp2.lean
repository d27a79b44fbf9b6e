/-
  Where lines end: the package wrap, walked.
  Conditions: none but those that each sentence tells.
-/
import Derived.Test.YtgmhdkheglnbhaaWrp1
import Derived.Test.YtgmhdkheglnbhaaIntsEq
namespace Go.Proofs.Ytgmhdkheglnbhaa
open Go.Pm
set_option maxRecDepth 100000
set_option linter.unusedSimpArgs false
set_option linter.unusedVariables false

theorem parts_pw : ∀ (l : List (Int × Int)) (e n : Int), 0 ≤ e → partsB e l n = true → (l.Pairwise fun p q => p.1 < q.1) ∧ ∀ p ∈ l, e ≤ p.1 ∧ p.1 ≤ n
  | [], e, n, _, _ => ⟨List.Pairwise.nil, fun p hp => by cases hp⟩
  | q :: l, e, n, he, h => by
    simp only [partsB, Bool.and_eq_true, decide_eq_true_eq] at h
    obtain ⟨h1, ⟨h2, h3⟩, h4⟩ := h
    have ih := parts_pw l q.2 n (by omega) h4
    have hn : q.2 ≤ n := by
      rcases hl : l with _ | ⟨r, l'⟩
      · rw [hl] at h4
        have : q.2 = n := by simpa [partsB] using h4
        omega
      · have := ih.2 r (by rw [hl]; simp); omega
    refine ⟨List.pairwise_cons.2 ⟨fun p hp => by have := ih.2 p hp; omega, ih.1⟩, fun p hp => ?_⟩
    rcases List.mem_cons.1 hp with rfl | hp
    · omega
    · have := ih.2 p hp; omega
theorem split_lt (X : List Int) {i j : Nat} (h : i < j) (hj : j < (splitT X).length) : ((splitT X).getD i default).1 < ((splitT X).getD j default).1 := by
  have := (parts_pw _ 0 _ (Int.le_refl 0) (split_parts X)).1
  have e := List.pairwise_iff_getElem.1 this i j (by omega) hj h
  rw [List.getD, List.getD, List.getElem?_eq_getElem (show i < (splitT X).length by omega), List.getElem?_eq_getElem hj]
  simpa using e
theorem split_in (X : List Int) {i : Nat} (hi : i < (splitT X).length) : 0 ≤ ((splitT X).getD i default).1 ∧ ((splitT X).getD i default).1 ≤ X.length :=
  (parts_pw _ 0 _ (Int.le_refl 0) (split_parts X)).2 _ (get_mem _ hi)
theorem begB_iff (P : List (Int × Int)) (a : Int) : begB P a = true ↔ ∃ i, i < P.length ∧ (P.getD i default).1 = a := by
  unfold begB
  rw [List.any_eq_true]
  constructor
  · rintro ⟨p, hp, e⟩
    obtain ⟨i, hi, rfl⟩ := List.mem_iff_getElem.1 hp
    refine ⟨i, hi, ?_⟩
    rw [List.getD, List.getElem?_eq_getElem hi]; simpa using e
  · rintro ⟨i, hi, e⟩
    exact ⟨_, get_mem P hi, by simpa using e⟩
theorem begins1 (p : Int × Int) (a : Int) (hw : IntKind.i64.wrap (p.1 - a) = p.1 - a) (h : Heap) {K : PV → Heap → Prop} (k : K (.int .i64 (p.1 - a)) h) : CanP Try.prog 71 [.agg [.int .i64 p.1, .int .i64 p.2], .int .i64 a] h K := by
  refine e71 rfl ?_
  try simp only [c71, r71_0, r71_1, hw, or_false, false_or, Bool.and_self, Bool.and_true, Bool.true_and, Bool.and_false, Bool.false_and, Bool.not_not, Int.cast_ofNat_Int, beq_self_eq_true, Heap.set_same, Heap.set_set, Heap.kill_kset, Int.toNat_natCast, Int.natCast_nonneg, Int.ofNat_lt, Int.ofNat_le, Int.natCast_inj, pmC, pmE, pmS, pmV, pmK, pmQ, pmL, pmX, pmF, pmO, pmA, pmR, pmW, pmB, Option.isSome_some, ft, olds_ints, olds_bools, ↓reduceIte, Nat.reduceEqDiff, reduceCtorEq, Nat.reduceAdd, Nat.reduceMul, Nat.reduceLeDiff, Nat.reduceLT, Int.reduceLE, Int.reduceLT, Int.reduceEq, Int.reduceToNat, Nat.zero_mul, Nat.zero_add, Nat.mul_one, ne_eq, not_false_eq_true, not_true_eq_false, true_and, and_true, decide_true, decide_false, Bool.not_true, Bool.not_false, Bool.false_eq_true, and_self, Nat.add_zero]
  exact finK_le (Heap.le_refl _) k
theorem binS (fr : Bool) (X : List Int) (hX : X.length ≤ 1000000) (a : Nat) (ha : a ≤ 1000000) (h : Heap) {K : PV → Heap → Prop} (k : ∀ z : Int, K (.tup [.int .i64 z, .bool (begB (splitT X) a)]) h) :
    CanP Try.prog 70 [.list fr 2 (splitT X).length ((splitT X).flatMap sp), .int .i64 a, .fn 71 [] []] h K := by
  refine e70 rfl ?_
  have hl := splitT_len X
  have hlt := fun i j => split_lt X (i := i) (j := j)
  have hin := fun i => split_in X (i := i)
  have hB := begB_iff (splitT X) a
  try simp only [c70, r70_0, r70_1, r70_2, r70_3, r70_4, r70_5, r70_6, r70_7, r70_8, old_sp, or_false, false_or, Bool.and_self, Bool.and_true, Bool.true_and, Bool.and_false, Bool.false_and, Bool.not_not, Int.cast_ofNat_Int, beq_self_eq_true, Heap.set_same, Heap.set_set, Heap.kill_kset, Int.toNat_natCast, Int.natCast_nonneg, Int.ofNat_lt, Int.ofNat_le, Int.natCast_inj, pmC, pmE, pmS, pmV, pmK, pmQ, pmL, pmX, pmF, pmO, pmA, pmR, pmW, pmB, Option.isSome_some, ft, olds_ints, olds_bools, ↓reduceIte, Nat.reduceEqDiff, reduceCtorEq, Nat.reduceAdd, Nat.reduceMul, Nat.reduceLeDiff, Nat.reduceLT, Int.reduceLE, Int.reduceLT, Int.reduceEq, Int.reduceToNat, Nat.zero_mul, Nat.zero_add, Nat.mul_one, ne_eq, not_false_eq_true, not_true_eq_false, true_and, and_true, decide_true, decide_false, Bool.not_true, Bool.not_false, Bool.false_eq_true, and_self, Nat.add_zero]
  generalize splitT X = P at *
  refine pwp_fall (fun m σ h' => ∃ lo hi : Nat, h' = h ∧ m = hi - lo ∧ lo ≤ hi ∧ hi ≤ P.length ∧ σ 0 = .list false 2 P.length (P.flatMap sp) ∧ σ 1 = .int .i64 a ∧ σ 2 = .fn 71 [] [] ∧ σ 8 = .int .i64 P.length ∧ σ 9 = .int .i64 lo ∧ σ 10 = .int .i64 hi ∧ (∀ i, i < lo → (P.getD i default).1 < a) ∧ ∀ i, hi ≤ i → i < P.length → (a : Int) ≤ (P.getD i default).1) P.length ⟨0, P.length, rfl, rfl, Nat.zero_le _, Nat.le_refl _, rfl, rfl, rfl, rfl, rfl, rfl, fun i h => by omega, fun i h1 h2 => by omega⟩ ?_
  rintro m σ h' K' ⟨lo, hi, rfl, rfl, h1, h2, s0, s1, s2, s8, s9, s10, bl, bh⟩ next
  rcases Nat.lt_or_ge lo hi with hlh | hge
  · have hu := halfU (a := lo) (c := hi) (by omega)
    have hwa : IntKind.i64.wrap ((lo : Int) + hi) = ((lo + hi : Nat) : Int) := by rw [wrap_in (by omega) (by omega)]; omega
    have hm : (lo + hi) / 2 < P.length := by omega
    have hx := flat_at sp 2 sp_len P hm
    have hx2 : (lo + hi) / 2 * 2 + 2 ≤ (P.flatMap sp).length := by rw [flat_length sp 2 sp_len]; omega
    have hp := hin _ hm
    try simp only [s0, s1, s2, s8, s9, s10, hlh, hwa, hu, hm, hx, hx2, sp, or_false, false_or, Bool.and_self, Bool.and_true, Bool.true_and, Bool.and_false, Bool.false_and, Bool.not_not, Int.cast_ofNat_Int, beq_self_eq_true, Heap.set_same, Heap.set_set, Heap.kill_kset, Int.toNat_natCast, Int.natCast_nonneg, Int.ofNat_lt, Int.ofNat_le, Int.natCast_inj, pmC, pmE, pmS, pmV, pmK, pmQ, pmL, pmX, pmF, pmO, pmA, pmR, pmW, pmB, Option.isSome_some, ft, olds_ints, olds_bools, ↓reduceIte, Nat.reduceEqDiff, reduceCtorEq, Nat.reduceAdd, Nat.reduceMul, Nat.reduceLeDiff, Nat.reduceLT, Int.reduceLE, Int.reduceLT, Int.reduceEq, Int.reduceToNat, Nat.zero_mul, Nat.zero_add, Nat.mul_one, ne_eq, not_false_eq_true, not_true_eq_false, true_and, and_true, decide_true, decide_false, Bool.not_true, Bool.not_false, Bool.false_eq_true, and_self, Nat.add_zero]
    have hwp : IntKind.i64.wrap ((P.getD ((lo + hi) / 2) default).1 - (a : Int)) = (P.getD ((lo + hi) / 2) default).1 - a := wrap_in (by omega) (by omega)
    refine begins1 _ _ hwp _ ?_
    by_cases c : (P.getD ((lo + hi) / 2) default).1 - (a : Int) < 0
    · have hw1 : IntKind.i64.wrap ((((lo + hi) / 2 : Nat) : Int) + 1) = (((lo + hi) / 2 + 1 : Nat) : Int) := by rw [wrap_in (by omega) (by omega)]; omega
      try simp only [c, hw1, or_false, false_or, Bool.and_self, Bool.and_true, Bool.true_and, Bool.and_false, Bool.false_and, Bool.not_not, Int.cast_ofNat_Int, beq_self_eq_true, Heap.set_same, Heap.set_set, Heap.kill_kset, Int.toNat_natCast, Int.natCast_nonneg, Int.ofNat_lt, Int.ofNat_le, Int.natCast_inj, pmC, pmE, pmS, pmV, pmK, pmQ, pmL, pmX, pmF, pmO, pmA, pmR, pmW, pmB, Option.isSome_some, ft, olds_ints, olds_bools, ↓reduceIte, Nat.reduceEqDiff, reduceCtorEq, Nat.reduceAdd, Nat.reduceMul, Nat.reduceLeDiff, Nat.reduceLT, Int.reduceLE, Int.reduceLT, Int.reduceEq, Int.reduceToNat, Nat.zero_mul, Nat.zero_add, Nat.mul_one, ne_eq, not_false_eq_true, not_true_eq_false, true_and, and_true, decide_true, decide_false, Bool.not_true, Bool.not_false, Bool.false_eq_true, and_self, Nat.add_zero]
      refine next (hi - ((lo + hi) / 2 + 1)) _ _ (by omega) ⟨(lo + hi) / 2 + 1, hi, rfl, rfl, by omega, h2, by simp [put, s0], by simp [put, s1], by simp [put, s2], by simp [put, s8], by simp [put]; try omega, by simp [put, s10], fun i hi2 => ?_, bh⟩
      rcases Nat.lt_or_ge i ((lo + hi) / 2) with e | e
      · have := hlt i _ e hm; omega
      · have : i = (lo + hi) / 2 := by omega
        rw [this]; omega
    · try simp only [c, or_false, false_or, Bool.and_self, Bool.and_true, Bool.true_and, Bool.and_false, Bool.false_and, Bool.not_not, Int.cast_ofNat_Int, beq_self_eq_true, Heap.set_same, Heap.set_set, Heap.kill_kset, Int.toNat_natCast, Int.natCast_nonneg, Int.ofNat_lt, Int.ofNat_le, Int.natCast_inj, pmC, pmE, pmS, pmV, pmK, pmQ, pmL, pmX, pmF, pmO, pmA, pmR, pmW, pmB, Option.isSome_some, ft, olds_ints, olds_bools, ↓reduceIte, Nat.reduceEqDiff, reduceCtorEq, Nat.reduceAdd, Nat.reduceMul, Nat.reduceLeDiff, Nat.reduceLT, Int.reduceLE, Int.reduceLT, Int.reduceEq, Int.reduceToNat, Nat.zero_mul, Nat.zero_add, Nat.mul_one, ne_eq, not_false_eq_true, not_true_eq_false, true_and, and_true, decide_true, decide_false, Bool.not_true, Bool.not_false, Bool.false_eq_true, and_self, Nat.add_zero]
      refine next ((lo + hi) / 2 - lo) _ _ (by omega) ⟨lo, (lo + hi) / 2, rfl, rfl, by omega, by omega, by simp [put, s0], by simp [put, s1], by simp [put, s2], by simp [put, s8], by simp [put, s9], by simp [put]; try omega, bl, fun i hi2 hi3 => ?_⟩
      rcases Nat.lt_or_ge ((lo + hi) / 2) i with e | e
      · have := hlt _ i e hi3; omega
      · have : i = (lo + hi) / 2 := by omega
        rw [this]; omega
  · have he : hi = lo := by omega
    subst he
    have hnl := Nat.lt_irrefl hi
    have kk := k hi
    by_cases hlt2 : hi < P.length
    · have hx := flat_at sp 2 sp_len P hlt2
      have hx2 : hi * 2 + 2 ≤ (P.flatMap sp).length := by rw [flat_length sp 2 sp_len]; omega
      have hp := hin _ hlt2
      have hwp : IntKind.i64.wrap ((P.getD hi default).1 - (a : Int)) = (P.getD hi default).1 - a := wrap_in (by omega) (by omega)
      have eB : begB P a = decide ((P.getD hi default).1 - (a : Int) = 0) := by
        rw [Bool.eq_iff_iff, hB, decide_eq_true_eq]
        constructor
        · rintro ⟨i, hi1, e⟩
          rcases Nat.lt_trichotomy i hi with q | q | q
          · have := bl i q; omega
          · subst q; omega
          · have := hlt hi i q hi1
            have := bh hi (Nat.le_refl _) hlt2; omega
        · intro e; exact ⟨hi, hlt2, by omega⟩
      rw [eB] at kk
      try simp only [s0, s1, s2, s8, s9, s10, hnl, hlt2, hx, hx2, sp, or_false, false_or, Bool.and_self, Bool.and_true, Bool.true_and, Bool.and_false, Bool.false_and, Bool.not_not, Int.cast_ofNat_Int, beq_self_eq_true, Heap.set_same, Heap.set_set, Heap.kill_kset, Int.toNat_natCast, Int.natCast_nonneg, Int.ofNat_lt, Int.ofNat_le, Int.natCast_inj, pmC, pmE, pmS, pmV, pmK, pmQ, pmL, pmX, pmF, pmO, pmA, pmR, pmW, pmB, Option.isSome_some, ft, olds_ints, olds_bools, ↓reduceIte, Nat.reduceEqDiff, reduceCtorEq, Nat.reduceAdd, Nat.reduceMul, Nat.reduceLeDiff, Nat.reduceLT, Int.reduceLE, Int.reduceLT, Int.reduceEq, Int.reduceToNat, Nat.zero_mul, Nat.zero_add, Nat.mul_one, ne_eq, not_false_eq_true, not_true_eq_false, true_and, and_true, decide_true, decide_false, Bool.not_true, Bool.not_false, Bool.false_eq_true, and_self, Nat.add_zero]
      refine begins1 _ _ hwp _ ?_
      try simp only [or_false, false_or, Bool.and_self, Bool.and_true, Bool.true_and, Bool.and_false, Bool.false_and, Bool.not_not, Int.cast_ofNat_Int, beq_self_eq_true, Heap.set_same, Heap.set_set, Heap.kill_kset, Int.toNat_natCast, Int.natCast_nonneg, Int.ofNat_lt, Int.ofNat_le, Int.natCast_inj, pmC, pmE, pmS, pmV, pmK, pmQ, pmL, pmX, pmF, pmO, pmA, pmR, pmW, pmB, Option.isSome_some, ft, olds_ints, olds_bools, ↓reduceIte, Nat.reduceEqDiff, reduceCtorEq, Nat.reduceAdd, Nat.reduceMul, Nat.reduceLeDiff, Nat.reduceLT, Int.reduceLE, Int.reduceLT, Int.reduceEq, Int.reduceToNat, Nat.zero_mul, Nat.zero_add, Nat.mul_one, ne_eq, not_false_eq_true, not_true_eq_false, true_and, and_true, decide_true, decide_false, Bool.not_true, Bool.not_false, Bool.false_eq_true, and_self, Nat.add_zero]
      exact finK_le (Heap.le_refl _) kk
    · have eB : begB P a = false := by
        rw [Bool.eq_false_iff]
        intro e
        obtain ⟨i, hi1, e⟩ := hB.1 e
        have := bl i (by omega); omega
      rw [eB] at kk
      try simp only [s0, s1, s2, s8, s9, s10, hnl, hlt2, or_false, false_or, Bool.and_self, Bool.and_true, Bool.true_and, Bool.and_false, Bool.false_and, Bool.not_not, Int.cast_ofNat_Int, beq_self_eq_true, Heap.set_same, Heap.set_set, Heap.kill_kset, Int.toNat_natCast, Int.natCast_nonneg, Int.ofNat_lt, Int.ofNat_le, Int.natCast_inj, pmC, pmE, pmS, pmV, pmK, pmQ, pmL, pmX, pmF, pmO, pmA, pmR, pmW, pmB, Option.isSome_some, ft, olds_ints, olds_bools, ↓reduceIte, Nat.reduceEqDiff, reduceCtorEq, Nat.reduceAdd, Nat.reduceMul, Nat.reduceLeDiff, Nat.reduceLT, Int.reduceLE, Int.reduceLT, Int.reduceEq, Int.reduceToNat, Nat.zero_mul, Nat.zero_add, Nat.mul_one, ne_eq, not_false_eq_true, not_true_eq_false, true_and, and_true, decide_true, decide_false, Bool.not_true, Bool.not_false, Bool.false_eq_true, and_self, Nat.add_zero]
      exact finK_le (Heap.le_refl _) kk
/-- A text, with what is known of it. -/
def txt (fr f1 f2 f3 : Bool) (X : List Int) (m : PV) : PV := .fptr fr [.list f1 1 X.length (X.map (.int .i64)), .list f2 1 X.length ((X.map classT).map (.int .i64)), .list f3 2 (splitT X).length ((splitT X).flatMap sp), m] 0
theorem old_txt (fr f1 f2 f3 : Bool) (X : List Int) (m : PV) : PV.old (txt fr f1 f2 f3 X m) = txt false false false false X m.old := by
  simp only [txt, PV.old, olds, olds_ints, old_sp]
theorem newText (p m : PV) (hp : PR p) (hm : Pm.flat m.old = some [m.old]) (fr : Bool) (X : List Int) (hl : X.length ≤ 1000000) (h : Heap) {K : PV → Heap → Prop} (k : ∀ f1 f2 f3, K (txt true f1 f2 f3 X m.old) h) :
    CanP Try.prog 27 [p, m, .list fr 1 X.length (X.map (.int .i64))] h K := by
  refine e27 rfl ?_
  have hp' := hp.old
  try simp only [c27, r27_0, r27_1, hm, or_false, false_or, Bool.and_self, Bool.and_true, Bool.true_and, Bool.and_false, Bool.false_and, Bool.not_not, Int.cast_ofNat_Int, beq_self_eq_true, Heap.set_same, Heap.set_set, Heap.kill_kset, Int.toNat_natCast, Int.natCast_nonneg, Int.ofNat_lt, Int.ofNat_le, Int.natCast_inj, pmC, pmE, pmS, pmV, pmK, pmQ, pmL, pmX, pmF, pmO, pmA, pmR, pmW, pmB, Option.isSome_some, ft, olds_ints, olds_bools, ↓reduceIte, Nat.reduceEqDiff, reduceCtorEq, Nat.reduceAdd, Nat.reduceMul, Nat.reduceLeDiff, Nat.reduceLT, Int.reduceLE, Int.reduceLT, Int.reduceEq, Int.reduceToNat, Nat.zero_mul, Nat.zero_add, Nat.mul_one, ne_eq, not_false_eq_true, not_true_eq_false, true_and, and_true, decide_true, decide_false, Bool.not_true, Bool.not_false, Bool.false_eq_true, and_self, Nat.add_zero]
  refine Classes _ hp' _ X hl _ ?_
  try simp only [hm, or_false, false_or, Bool.and_self, Bool.and_true, Bool.true_and, Bool.and_false, Bool.false_and, Bool.not_not, Int.cast_ofNat_Int, beq_self_eq_true, Heap.set_same, Heap.set_set, Heap.kill_kset, Int.toNat_natCast, Int.natCast_nonneg, Int.ofNat_lt, Int.ofNat_le, Int.natCast_inj, pmC, pmE, pmS, pmV, pmK, pmQ, pmL, pmX, pmF, pmO, pmA, pmR, pmW, pmB, Option.isSome_some, ft, olds_ints, olds_bools, ↓reduceIte, Nat.reduceEqDiff, reduceCtorEq, Nat.reduceAdd, Nat.reduceMul, Nat.reduceLeDiff, Nat.reduceLT, Int.reduceLE, Int.reduceLT, Int.reduceEq, Int.reduceToNat, Nat.zero_mul, Nat.zero_add, Nat.mul_one, ne_eq, not_false_eq_true, not_true_eq_false, true_and, and_true, decide_true, decide_false, Bool.not_true, Bool.not_false, Bool.false_eq_true, and_self, Nat.add_zero]
  refine paraSplit _ hp' _ X hl _ ?_
  try simp only [hm, or_false, false_or, Bool.and_self, Bool.and_true, Bool.true_and, Bool.and_false, Bool.false_and, Bool.not_not, Int.cast_ofNat_Int, beq_self_eq_true, Heap.set_same, Heap.set_set, Heap.kill_kset, Int.toNat_natCast, Int.natCast_nonneg, Int.ofNat_lt, Int.ofNat_le, Int.natCast_inj, pmC, pmE, pmS, pmV, pmK, pmQ, pmL, pmX, pmF, pmO, pmA, pmR, pmW, pmB, Option.isSome_some, ft, olds_ints, olds_bools, ↓reduceIte, Nat.reduceEqDiff, reduceCtorEq, Nat.reduceAdd, Nat.reduceMul, Nat.reduceLeDiff, Nat.reduceLT, Int.reduceLE, Int.reduceLT, Int.reduceEq, Int.reduceToNat, Nat.zero_mul, Nat.zero_add, Nat.mul_one, ne_eq, not_false_eq_true, not_true_eq_false, true_and, and_true, decide_true, decide_false, Bool.not_true, Bool.not_false, Bool.false_eq_true, and_self, Nat.add_zero]
  exact finK_le (Heap.le_refl _) (k _ _ _)
theorem begins (fr f1 f2 f3 : Bool) (X : List Int) (hX : X.length ≤ 1000000) (m : PV) (a : Nat) (ha : a ≤ 1000000) (h : Heap) {K : PV → Heap → Prop} (k : K (.bool (begB (splitT X) a)) h) :
    CanP Try.prog 67 [txt fr f1 f2 f3 X m, .int .i64 a] h K := by
  refine e67 rfl ?_
  try simp only [c67, r67_0, r67_1, r67_2, old_txt, or_false, false_or, Bool.and_self, Bool.and_true, Bool.true_and, Bool.and_false, Bool.false_and, Bool.not_not, Int.cast_ofNat_Int, beq_self_eq_true, Heap.set_same, Heap.set_set, Heap.kill_kset, Int.toNat_natCast, Int.natCast_nonneg, Int.ofNat_lt, Int.ofNat_le, Int.natCast_inj, pmC, pmE, pmS, pmV, pmK, pmQ, pmL, pmX, pmF, pmO, pmA, pmR, pmW, pmB, Option.isSome_some, ft, olds_ints, olds_bools, ↓reduceIte, Nat.reduceEqDiff, reduceCtorEq, Nat.reduceAdd, Nat.reduceMul, Nat.reduceLeDiff, Nat.reduceLT, Int.reduceLE, Int.reduceLT, Int.reduceEq, Int.reduceToNat, Nat.zero_mul, Nat.zero_add, Nat.mul_one, ne_eq, not_false_eq_true, not_true_eq_false, true_and, and_true, decide_true, decide_false, Bool.not_true, Bool.not_false, Bool.false_eq_true, and_self, Nat.add_zero]
  try simp only [txt, or_false, false_or, Bool.and_self, Bool.and_true, Bool.true_and, Bool.and_false, Bool.false_and, Bool.not_not, Int.cast_ofNat_Int, beq_self_eq_true, Heap.set_same, Heap.set_set, Heap.kill_kset, Int.toNat_natCast, Int.natCast_nonneg, Int.ofNat_lt, Int.ofNat_le, Int.natCast_inj, pmC, pmE, pmS, pmV, pmK, pmQ, pmL, pmX, pmF, pmO, pmA, pmR, pmW, pmB, Option.isSome_some, ft, olds_ints, olds_bools, ↓reduceIte, Nat.reduceEqDiff, reduceCtorEq, Nat.reduceAdd, Nat.reduceMul, Nat.reduceLeDiff, Nat.reduceLT, Int.reduceLE, Int.reduceLT, Int.reduceEq, Int.reduceToNat, Nat.zero_mul, Nat.zero_add, Nat.mul_one, ne_eq, not_false_eq_true, not_true_eq_false, true_and, and_true, decide_true, decide_false, Bool.not_true, Bool.not_false, Bool.false_eq_true, and_self, Nat.add_zero]
  refine binS _ X hX a ha _ fun z => ?_
  try simp only [or_false, false_or, Bool.and_self, Bool.and_true, Bool.true_and, Bool.and_false, Bool.false_and, Bool.not_not, Int.cast_ofNat_Int, beq_self_eq_true, Heap.set_same, Heap.set_set, Heap.kill_kset, Int.toNat_natCast, Int.natCast_nonneg, Int.ofNat_lt, Int.ofNat_le, Int.natCast_inj, pmC, pmE, pmS, pmV, pmK, pmQ, pmL, pmX, pmF, pmO, pmA, pmR, pmW, pmB, Option.isSome_some, ft, olds_ints, olds_bools, ↓reduceIte, Nat.reduceEqDiff, reduceCtorEq, Nat.reduceAdd, Nat.reduceMul, Nat.reduceLeDiff, Nat.reduceLT, Int.reduceLE, Int.reduceLT, Int.reduceEq, Int.reduceToNat, Nat.zero_mul, Nat.zero_add, Nat.mul_one, ne_eq, not_false_eq_true, not_true_eq_false, true_and, and_true, decide_true, decide_false, Bool.not_true, Bool.not_false, Bool.false_eq_true, and_self, Nat.add_zero]
  exact finK_le (Heap.le_refl _) k
theorem mayC (fr f1 f2 f3 : Bool) (X : List Int) (hX : X.length ≤ 1000000) (m : PV) (a : Nat) (h1 : 1 ≤ a) (ha : a < X.length) (h : Heap) {K : PV → Heap → Prop} (k : K (.bool (mayW X a)) h) :
    CanP Try.prog 54 [txt fr f1 f2 f3 X m, .int .i64 a] h K := by
  refine e54 rfl ?_
  unfold mayW at k
  try simp only [c54, r54_0, r54_1, r54_2, r54_3, r54_4, r54_5, r54_6, r54_7, r54_8, r54_9, old_txt, or_false, false_or, Bool.and_self, Bool.and_true, Bool.true_and, Bool.and_false, Bool.false_and, Bool.not_not, Int.cast_ofNat_Int, beq_self_eq_true, Heap.set_same, Heap.set_set, Heap.kill_kset, Int.toNat_natCast, Int.natCast_nonneg, Int.ofNat_lt, Int.ofNat_le, Int.natCast_inj, pmC, pmE, pmS, pmV, pmK, pmQ, pmL, pmX, pmF, pmO, pmA, pmR, pmW, pmB, Option.isSome_some, ft, olds_ints, olds_bools, ↓reduceIte, Nat.reduceEqDiff, reduceCtorEq, Nat.reduceAdd, Nat.reduceMul, Nat.reduceLeDiff, Nat.reduceLT, Int.reduceLE, Int.reduceLT, Int.reduceEq, Int.reduceToNat, Nat.zero_mul, Nat.zero_add, Nat.mul_one, ne_eq, not_false_eq_true, not_true_eq_false, true_and, and_true, decide_true, decide_false, Bool.not_true, Bool.not_false, Bool.false_eq_true, and_self, Nat.add_zero]
  refine begins false false false false X hX _ a (by omega) _ ?_
  cases hb : begB (splitT X) a
  · rw [hb, Bool.or_false] at k
    have w1 : IntKind.i64.wrap ((a : Int) - 1) = ((a - 1 : Nat) : Int) := by rw [wrap_in (by omega) (by omega)]; omega
    have g1 := getm (PV.int .i64) (X.map classT) (i := a - 1) (by simp; omega)
    have g2 := getm (PV.int .i64) (X.map classT) (i := a) (by simp; omega)
    have e1 : (X.map classT).getD (a - 1) default = classT (X.getD (a - 1) default) := by simp [List.getD, show a - 1 < X.length by omega]
    have e2 : (X.map classT).getD a default = classT (X.getD a default) := by simp [List.getD, ha]
    rw [e1] at g1
    rw [e2] at g2
    have l1 : a - 1 < X.length := by omega
    generalize classT (X.getD (a - 1) default) = c at *
    generalize classT (X.getD a default) = d at *
    try simp only [txt, or_false, false_or, Bool.and_self, Bool.and_true, Bool.true_and, Bool.and_false, Bool.false_and, Bool.not_not, Int.cast_ofNat_Int, beq_self_eq_true, Heap.set_same, Heap.set_set, Heap.kill_kset, Int.toNat_natCast, Int.natCast_nonneg, Int.ofNat_lt, Int.ofNat_le, Int.natCast_inj, pmC, pmE, pmS, pmV, pmK, pmQ, pmL, pmX, pmF, pmO, pmA, pmR, pmW, pmB, Option.isSome_some, ft, olds_ints, olds_bools, ↓reduceIte, Nat.reduceEqDiff, reduceCtorEq, Nat.reduceAdd, Nat.reduceMul, Nat.reduceLeDiff, Nat.reduceLT, Int.reduceLE, Int.reduceLT, Int.reduceEq, Int.reduceToNat, Nat.zero_mul, Nat.zero_add, Nat.mul_one, ne_eq, not_false_eq_true, not_true_eq_false, true_and, and_true, decide_true, decide_false, Bool.not_true, Bool.not_false, Bool.false_eq_true, and_self, Nat.add_zero]
    try simp only [w1, g1, l1, or_false, false_or, Bool.and_self, Bool.and_true, Bool.true_and, Bool.and_false, Bool.false_and, Bool.not_not, Int.cast_ofNat_Int, beq_self_eq_true, Heap.set_same, Heap.set_set, Heap.kill_kset, Int.toNat_natCast, Int.natCast_nonneg, Int.ofNat_lt, Int.ofNat_le, Int.natCast_inj, pmC, pmE, pmS, pmV, pmK, pmQ, pmL, pmX, pmF, pmO, pmA, pmR, pmW, pmB, Option.isSome_some, ft, olds_ints, olds_bools, ↓reduceIte, Nat.reduceEqDiff, reduceCtorEq, Nat.reduceAdd, Nat.reduceMul, Nat.reduceLeDiff, Nat.reduceLT, Int.reduceLE, Int.reduceLT, Int.reduceEq, Int.reduceToNat, Nat.zero_mul, Nat.zero_add, Nat.mul_one, ne_eq, not_false_eq_true, not_true_eq_false, true_and, and_true, decide_true, decide_false, Bool.not_true, Bool.not_false, Bool.false_eq_true, and_self, Nat.add_zero]
    by_cases q1 : c = 12
    · by_cases q2 : d = 12
      · try simp only [q1, q2, g2, ha, or_false, false_or, Bool.and_self, Bool.and_true, Bool.true_and, Bool.and_false, Bool.false_and, Bool.not_not, Int.cast_ofNat_Int, beq_self_eq_true, Heap.set_same, Heap.set_set, Heap.kill_kset, Int.toNat_natCast, Int.natCast_nonneg, Int.ofNat_lt, Int.ofNat_le, Int.natCast_inj, pmC, pmE, pmS, pmV, pmK, pmQ, pmL, pmX, pmF, pmO, pmA, pmR, pmW, pmB, Option.isSome_some, ft, olds_ints, olds_bools, ↓reduceIte, Nat.reduceEqDiff, reduceCtorEq, Nat.reduceAdd, Nat.reduceMul, Nat.reduceLeDiff, Nat.reduceLT, Int.reduceLE, Int.reduceLT, Int.reduceEq, Int.reduceToNat, Nat.zero_mul, Nat.zero_add, Nat.mul_one, ne_eq, not_false_eq_true, not_true_eq_false, true_and, and_true, decide_true, decide_false, Bool.not_true, Bool.not_false, Bool.false_eq_true, and_self, Nat.add_zero]
        exact finK_le (Heap.le_refl _) (by simpa [q1, q2] using k)
      · by_cases q3 : d = 8
        · try simp only [q1, q2, q3, g2, ha, or_false, false_or, Bool.and_self, Bool.and_true, Bool.true_and, Bool.and_false, Bool.false_and, Bool.not_not, Int.cast_ofNat_Int, beq_self_eq_true, Heap.set_same, Heap.set_set, Heap.kill_kset, Int.toNat_natCast, Int.natCast_nonneg, Int.ofNat_lt, Int.ofNat_le, Int.natCast_inj, pmC, pmE, pmS, pmV, pmK, pmQ, pmL, pmX, pmF, pmO, pmA, pmR, pmW, pmB, Option.isSome_some, ft, olds_ints, olds_bools, ↓reduceIte, Nat.reduceEqDiff, reduceCtorEq, Nat.reduceAdd, Nat.reduceMul, Nat.reduceLeDiff, Nat.reduceLT, Int.reduceLE, Int.reduceLT, Int.reduceEq, Int.reduceToNat, Nat.zero_mul, Nat.zero_add, Nat.mul_one, ne_eq, not_false_eq_true, not_true_eq_false, true_and, and_true, decide_true, decide_false, Bool.not_true, Bool.not_false, Bool.false_eq_true, and_self, Nat.add_zero]
          exact finK_le (Heap.le_refl _) (by simpa [q1, q2, q3] using k)
        · try simp only [q1, q2, q3, g2, ha, or_false, false_or, Bool.and_self, Bool.and_true, Bool.true_and, Bool.and_false, Bool.false_and, Bool.not_not, Int.cast_ofNat_Int, beq_self_eq_true, Heap.set_same, Heap.set_set, Heap.kill_kset, Int.toNat_natCast, Int.natCast_nonneg, Int.ofNat_lt, Int.ofNat_le, Int.natCast_inj, pmC, pmE, pmS, pmV, pmK, pmQ, pmL, pmX, pmF, pmO, pmA, pmR, pmW, pmB, Option.isSome_some, ft, olds_ints, olds_bools, ↓reduceIte, Nat.reduceEqDiff, reduceCtorEq, Nat.reduceAdd, Nat.reduceMul, Nat.reduceLeDiff, Nat.reduceLT, Int.reduceLE, Int.reduceLT, Int.reduceEq, Int.reduceToNat, Nat.zero_mul, Nat.zero_add, Nat.mul_one, ne_eq, not_false_eq_true, not_true_eq_false, true_and, and_true, decide_true, decide_false, Bool.not_true, Bool.not_false, Bool.false_eq_true, and_self, Nat.add_zero]
          exact finK_le (Heap.le_refl _) (by simpa [q1, q2, q3] using k)
    · try simp only [q1, or_false, false_or, Bool.and_self, Bool.and_true, Bool.true_and, Bool.and_false, Bool.false_and, Bool.not_not, Int.cast_ofNat_Int, beq_self_eq_true, Heap.set_same, Heap.set_set, Heap.kill_kset, Int.toNat_natCast, Int.natCast_nonneg, Int.ofNat_lt, Int.ofNat_le, Int.natCast_inj, pmC, pmE, pmS, pmV, pmK, pmQ, pmL, pmX, pmF, pmO, pmA, pmR, pmW, pmB, Option.isSome_some, ft, olds_ints, olds_bools, ↓reduceIte, Nat.reduceEqDiff, reduceCtorEq, Nat.reduceAdd, Nat.reduceMul, Nat.reduceLeDiff, Nat.reduceLT, Int.reduceLE, Int.reduceLT, Int.reduceEq, Int.reduceToNat, Nat.zero_mul, Nat.zero_add, Nat.mul_one, ne_eq, not_false_eq_true, not_true_eq_false, true_and, and_true, decide_true, decide_false, Bool.not_true, Bool.not_false, Bool.false_eq_true, and_self, Nat.add_zero]
      exact finK_le (Heap.le_refl _) (by simpa [q1] using k)
  · rw [hb, Bool.or_true] at k
    try simp only [or_false, false_or, Bool.and_self, Bool.and_true, Bool.true_and, Bool.and_false, Bool.false_and, Bool.not_not, Int.cast_ofNat_Int, beq_self_eq_true, Heap.set_same, Heap.set_set, Heap.kill_kset, Int.toNat_natCast, Int.natCast_nonneg, Int.ofNat_lt, Int.ofNat_le, Int.natCast_inj, pmC, pmE, pmS, pmV, pmK, pmQ, pmL, pmX, pmF, pmO, pmA, pmR, pmW, pmB, Option.isSome_some, ft, olds_ints, olds_bools, ↓reduceIte, Nat.reduceEqDiff, reduceCtorEq, Nat.reduceAdd, Nat.reduceMul, Nat.reduceLeDiff, Nat.reduceLT, Int.reduceLE, Int.reduceLT, Int.reduceEq, Int.reduceToNat, Nat.zero_mul, Nat.zero_add, Nat.mul_one, ne_eq, not_false_eq_true, not_true_eq_false, true_and, and_true, decide_true, decide_false, Bool.not_true, Bool.not_false, Bool.false_eq_true, and_self, Nat.add_zero]
    exact finK_le (Heap.le_refl _) k
def rngN (a b : Nat) : List Nat := List.range' a (b - a)
theorem filt_succ (p : Nat → Bool) {i : Nat} (h : 1 ≤ i) : (rngN 1 (i + 1)).filter p = (rngN 1 i).filter p ++ (if p i then [i] else []) := by
  unfold rngN
  rw [show i + 1 - 1 = (i - 1) + 1 by omega, List.range'_concat, List.filter_append]
  have : 1 + 1 * (i - 1) = i := by omega
  rw [this]
  cases hp : p i <;> simp [hp]
def mays (X : List Int) : List Nat := (rngN 1 X.length).filter (mayW X)
def natV (l : List Nat) : List PV := l.map fun n : Nat => PV.int .i64 (n : Int)
theorem old_natV (l : List Nat) : olds (natV l) = natV l := by
  have : natV l = (l.map fun n : Nat => (n : Int)).map (PV.int .i64) := by simp [natV]
  rw [this, olds_ints]
theorem places (fr f1 f2 f3 : Bool) (X : List Int) (hX : X.length ≤ 1000000) (m : PV) (h : Heap) {K : PV → Heap → Prop}
    (k : K (.list true 1 (mays X).length (natV (mays X))) h) :
    CanP Try.prog 34 [txt fr f1 f2 f3 X m] h K := by
  refine e34 rfl ?_
  try simp only [c34, r34_0, r34_1, r34_2, r34_3, r34_4, r34_5, r34_6, r34_7, old_txt, or_false, false_or, Bool.and_self, Bool.and_true, Bool.true_and, Bool.and_false, Bool.false_and, Bool.not_not, Int.cast_ofNat_Int, beq_self_eq_true, Heap.set_same, Heap.set_set, Heap.kill_kset, Int.toNat_natCast, Int.natCast_nonneg, Int.ofNat_lt, Int.ofNat_le, Int.natCast_inj, pmC, pmE, pmS, pmV, pmK, pmQ, pmL, pmX, pmF, pmO, pmA, pmR, pmW, pmB, Option.isSome_some, ft, olds_ints, olds_bools, ↓reduceIte, Nat.reduceEqDiff, reduceCtorEq, Nat.reduceAdd, Nat.reduceMul, Nat.reduceLeDiff, Nat.reduceLT, Int.reduceLE, Int.reduceLT, Int.reduceEq, Int.reduceToNat, Nat.zero_mul, Nat.zero_add, Nat.mul_one, ne_eq, not_false_eq_true, not_true_eq_false, true_and, and_true, decide_true, decide_false, Bool.not_true, Bool.not_false, Bool.false_eq_true, and_self, Nat.add_zero]
  refine pwp_fall (fun q σ h' => ∃ i : Nat, q = X.length - i ∧ 1 ≤ i ∧ Acc h h' (σ 3) 1 ((rngN 1 i).filter (mayW X)).length (natV ((rngN 1 i).filter (mayW X))) ∧ (((rngN 1 i).filter (mayW X)) = [] → σ 3 = .nils) ∧ h.le h' ∧ (i ≤ X.length ∨ i = 1) ∧ σ 0 = txt false false false false X m.old ∧ σ 4 = .int .i64 i) (X.length - 1) ⟨1, rfl, Nat.le_refl _, Acc.nil _ _ _, fun _ => rfl, Heap.le_refl _, .inr rfl, rfl, rfl⟩ ?_
  rintro q σ h' K' ⟨i, rfl, h1, a, an, lh, h2, s0, s4⟩ next
  have fl : ∀ i, ((rngN 1 i).filter (mayW X)).length ≤ i := fun i => Nat.le_trans (List.length_filter_le _ _) (by simp [rngN])
  try simp only [s0, or_false, false_or, Bool.and_self, Bool.and_true, Bool.true_and, Bool.and_false, Bool.false_and, Bool.not_not, Int.cast_ofNat_Int, beq_self_eq_true, Heap.set_same, Heap.set_set, Heap.kill_kset, Int.toNat_natCast, Int.natCast_nonneg, Int.ofNat_lt, Int.ofNat_le, Int.natCast_inj, pmC, pmE, pmS, pmV, pmK, pmQ, pmL, pmX, pmF, pmO, pmA, pmR, pmW, pmB, Option.isSome_some, ft, olds_ints, olds_bools, ↓reduceIte, Nat.reduceEqDiff, reduceCtorEq, Nat.reduceAdd, Nat.reduceMul, Nat.reduceLeDiff, Nat.reduceLT, Int.reduceLE, Int.reduceLT, Int.reduceEq, Int.reduceToNat, Nat.zero_mul, Nat.zero_add, Nat.mul_one, ne_eq, not_false_eq_true, not_true_eq_false, true_and, and_true, decide_true, decide_false, Bool.not_true, Bool.not_false, Bool.false_eq_true, and_self, Nat.add_zero]
  try simp only [s4, txt, or_false, false_or, Bool.and_self, Bool.and_true, Bool.true_and, Bool.and_false, Bool.false_and, Bool.not_not, Int.cast_ofNat_Int, beq_self_eq_true, Heap.set_same, Heap.set_set, Heap.kill_kset, Int.toNat_natCast, Int.natCast_nonneg, Int.ofNat_lt, Int.ofNat_le, Int.natCast_inj, pmC, pmE, pmS, pmV, pmK, pmQ, pmL, pmX, pmF, pmO, pmA, pmR, pmW, pmB, Option.isSome_some, ft, olds_ints, olds_bools, ↓reduceIte, Nat.reduceEqDiff, reduceCtorEq, Nat.reduceAdd, Nat.reduceMul, Nat.reduceLeDiff, Nat.reduceLT, Int.reduceLE, Int.reduceLT, Int.reduceEq, Int.reduceToNat, Nat.zero_mul, Nat.zero_add, Nat.mul_one, ne_eq, not_false_eq_true, not_true_eq_false, true_and, and_true, decide_true, decide_false, Bool.not_true, Bool.not_false, Bool.false_eq_true, and_self, Nat.add_zero]
  rcases Nat.lt_or_ge i X.length with hlt | hge
  · have hw : IntKind.i64.wrap ((i : Int) + 1) = ((i + 1 : Nat) : Int) := by rw [wrap_in (by omega) (by omega)]; omega
    have e := filt_succ (mayW X) h1
    have fli := fl i
    try simp only [hlt, s0, s4, or_false, false_or, Bool.and_self, Bool.and_true, Bool.true_and, Bool.and_false, Bool.false_and, Bool.not_not, Int.cast_ofNat_Int, beq_self_eq_true, Heap.set_same, Heap.set_set, Heap.kill_kset, Int.toNat_natCast, Int.natCast_nonneg, Int.ofNat_lt, Int.ofNat_le, Int.natCast_inj, pmC, pmE, pmS, pmV, pmK, pmQ, pmL, pmX, pmF, pmO, pmA, pmR, pmW, pmB, Option.isSome_some, ft, olds_ints, olds_bools, ↓reduceIte, Nat.reduceEqDiff, reduceCtorEq, Nat.reduceAdd, Nat.reduceMul, Nat.reduceLeDiff, Nat.reduceLT, Int.reduceLE, Int.reduceLT, Int.reduceEq, Int.reduceToNat, Nat.zero_mul, Nat.zero_add, Nat.mul_one, ne_eq, not_false_eq_true, not_true_eq_false, true_and, and_true, decide_true, decide_false, Bool.not_true, Bool.not_false, Bool.false_eq_true, and_self, Nat.add_zero]
    refine mayC false false false false X hX m.old i h1 hlt _ ?_
    cases hm : mayW X i
    · rw [hm] at e
      try simp only [s4, hw, or_false, false_or, Bool.and_self, Bool.and_true, Bool.true_and, Bool.and_false, Bool.false_and, Bool.not_not, Int.cast_ofNat_Int, beq_self_eq_true, Heap.set_same, Heap.set_set, Heap.kill_kset, Int.toNat_natCast, Int.natCast_nonneg, Int.ofNat_lt, Int.ofNat_le, Int.natCast_inj, pmC, pmE, pmS, pmV, pmK, pmQ, pmL, pmX, pmF, pmO, pmA, pmR, pmW, pmB, Option.isSome_some, ft, olds_ints, olds_bools, ↓reduceIte, Nat.reduceEqDiff, reduceCtorEq, Nat.reduceAdd, Nat.reduceMul, Nat.reduceLeDiff, Nat.reduceLT, Int.reduceLE, Int.reduceLT, Int.reduceEq, Int.reduceToNat, Nat.zero_mul, Nat.zero_add, Nat.mul_one, ne_eq, not_false_eq_true, not_true_eq_false, true_and, and_true, decide_true, decide_false, Bool.not_true, Bool.not_false, Bool.false_eq_true, and_self, Nat.add_zero]
      refine next (X.length - (i + 1)) _ _ (by omega) ⟨i + 1, rfl, by omega, by rw [e]; simpa [put] using a, by rw [e]; simpa [put] using an, lh, .inl hlt, by simp [put, s0], by simp [put]⟩
    · rw [hm] at e
      try simp only [s4, or_false, false_or, Bool.and_self, Bool.and_true, Bool.true_and, Bool.and_false, Bool.false_and, Bool.not_not, Int.cast_ofNat_Int, beq_self_eq_true, Heap.set_same, Heap.set_set, Heap.kill_kset, Int.toNat_natCast, Int.natCast_nonneg, Int.ofNat_lt, Int.ofNat_le, Int.natCast_inj, pmC, pmE, pmS, pmV, pmK, pmQ, pmL, pmX, pmF, pmO, pmA, pmR, pmW, pmB, Option.isSome_some, ft, olds_ints, olds_bools, ↓reduceIte, Nat.reduceEqDiff, reduceCtorEq, Nat.reduceAdd, Nat.reduceMul, Nat.reduceLeDiff, Nat.reduceLT, Int.reduceLE, Int.reduceLT, Int.reduceEq, Int.reduceToNat, Nat.zero_mul, Nat.zero_add, Nat.mul_one, ne_eq, not_false_eq_true, not_true_eq_false, true_and, and_true, decide_true, decide_false, Bool.not_true, Bool.not_false, Bool.false_eq_true, and_self, Nat.add_zero]
      refine a.app lh (by decide) rfl (by omega) (by simp only [maxLen]; omega) fun v' h3 a' l' sd => ?_
      try simp only [s4, hw, or_false, false_or, Bool.and_self, Bool.and_true, Bool.true_and, Bool.and_false, Bool.false_and, Bool.not_not, Int.cast_ofNat_Int, beq_self_eq_true, Heap.set_same, Heap.set_set, Heap.kill_kset, Int.toNat_natCast, Int.natCast_nonneg, Int.ofNat_lt, Int.ofNat_le, Int.natCast_inj, pmC, pmE, pmS, pmV, pmK, pmQ, pmL, pmX, pmF, pmO, pmA, pmR, pmW, pmB, Option.isSome_some, ft, olds_ints, olds_bools, ↓reduceIte, Nat.reduceEqDiff, reduceCtorEq, Nat.reduceAdd, Nat.reduceMul, Nat.reduceLeDiff, Nat.reduceLT, Int.reduceLE, Int.reduceLT, Int.reduceEq, Int.reduceToNat, Nat.zero_mul, Nat.zero_add, Nat.mul_one, ne_eq, not_false_eq_true, not_true_eq_false, true_and, and_true, decide_true, decide_false, Bool.not_true, Bool.not_false, Bool.false_eq_true, and_self, Nat.add_zero]
      refine next (X.length - (i + 1)) _ _ (by omega) ⟨i + 1, rfl, by omega, by rw [e]; simpa [put, natV] using a', fun q => by rw [e] at q; simp at q, l', .inl hlt, by simp [put, s0], by simp [put]⟩
  · try simp only [show ¬ i < X.length by omega, or_false, false_or, Bool.and_self, Bool.and_true, Bool.true_and, Bool.and_false, Bool.false_and, Bool.not_not, Int.cast_ofNat_Int, beq_self_eq_true, Heap.set_same, Heap.set_set, Heap.kill_kset, Int.toNat_natCast, Int.natCast_nonneg, Int.ofNat_lt, Int.ofNat_le, Int.natCast_inj, pmC, pmE, pmS, pmV, pmK, pmQ, pmL, pmX, pmF, pmO, pmA, pmR, pmW, pmB, Option.isSome_some, ft, olds_ints, olds_bools, ↓reduceIte, Nat.reduceEqDiff, reduceCtorEq, Nat.reduceAdd, Nat.reduceMul, Nat.reduceLeDiff, Nat.reduceLT, Int.reduceLE, Int.reduceLT, Int.reduceEq, Int.reduceToNat, Nat.zero_mul, Nat.zero_add, Nat.mul_one, ne_eq, not_false_eq_true, not_true_eq_false, true_and, and_true, decide_true, decide_false, Bool.not_true, Bool.not_false, Bool.false_eq_true, and_self, Nat.add_zero]
    have e : rngN 1 i = rngN 1 X.length := by
      rcases h2 with q | q
      · rw [show i = X.length by omega]
      · subst q
        unfold rngN
        rw [show X.length - 1 = 0 by omega]
    rw [e] at a an
    refine a.fin lh ?_
    rw [old_natV]
    exact k
theorem slcX {k : Option Nat} {fr : Bool} {X : List Int} {lo hi : Nat} {K : Kt} {h : Heap} (h1 : lo ≤ hi) (h2 : hi ≤ X.length) : slcK k (some 1) (.list fr 1 X.length (X.map (.int .i64))) (some (.int .i64 (lo : Int))) (some (.int .i64 (hi : Int))) K h = K (.list fr 1 (cutX X lo hi).length ((cutX X lo hi).map (.int .i64))) h := by
  rw [slcL_both h1 h2, cutX_len X h2]
  have : (((X.map (PV.int .i64)).drop (lo * 1)).take ((hi - lo) * 1)) = (cutX X lo hi).map (.int .i64) := by
    unfold cutX; rw [Nat.mul_one, Nat.mul_one, ← List.map_drop, ← List.map_take]
  rw [this]
theorem cutX_take (X : List Int) {lo hi q : Nat} (h : q ≤ hi - lo) : (cutX X lo hi).take q = cutX X lo (lo + q) := by
  unfold cutX; rw [List.take_take, Nat.min_eq_left h, Nat.add_sub_cancel_left]
theorem cellsC (fr f1 f2 f3 : Bool) (X : List Int) (hX : X.length ≤ 1000000) (m : PV) (hm : MT m) (lo hi : Nat) (h1 : lo ≤ hi) (h2 : hi ≤ X.length) (h : Heap) {K : PV → Heap → Prop} (k : K (.int .i64 (cellsL (cutX X lo hi))) h) :
    CanP Try.prog 59 [txt fr f1 f2 f3 X m, .agg [.int .i64 lo, .int .i64 hi]] h K := by
  refine e59 rfl ?_
  have hm' := hm.old
  have hY := cutX_len X h2 (lo := lo)
  try simp only [c59, r59_0, r59_1, r59_2, r59_3, old_txt, or_false, false_or, Bool.and_self, Bool.and_true, Bool.true_and, Bool.and_false, Bool.false_and, Bool.not_not, Int.cast_ofNat_Int, beq_self_eq_true, Heap.set_same, Heap.set_set, Heap.kill_kset, Int.toNat_natCast, Int.natCast_nonneg, Int.ofNat_lt, Int.ofNat_le, Int.natCast_inj, pmC, pmE, pmS, pmV, pmK, pmQ, pmL, pmX, pmF, pmO, pmA, pmR, pmW, pmB, Option.isSome_some, ft, olds_ints, olds_bools, ↓reduceIte, Nat.reduceEqDiff, reduceCtorEq, Nat.reduceAdd, Nat.reduceMul, Nat.reduceLeDiff, Nat.reduceLT, Int.reduceLE, Int.reduceLT, Int.reduceEq, Int.reduceToNat, Nat.zero_mul, Nat.zero_add, Nat.mul_one, ne_eq, not_false_eq_true, not_true_eq_false, true_and, and_true, decide_true, decide_false, Bool.not_true, Bool.not_false, Bool.false_eq_true, and_self, Nat.add_zero]
  intro b hb
  refine pwp_fall (fun q σ h' => h' = h.set b [.int .i64 lo, .int .i64 ((lo + q : Nat) : Int)] ∧ q ≤ hi - lo ∧ trimL (cutX X lo hi) (hi - lo) = trimL (cutX X lo hi) q ∧ σ 0 = txt false false false false X m.old ∧ σ 3 = .ptr b 0) (hi - lo) ⟨?_, Nat.le_refl _, rfl, rfl, rfl⟩ ?_
  · rw [show lo + (hi - lo) = hi by omega]
  rintro q σ h' K' ⟨rfl, hq, ht, s0, s3⟩ next
  have s00 := s0
  rw [txt] at s00
  have hcell : trimL (cutX X lo hi) (hi - lo) = q → cellsL (cutX X lo hi) = sumW (cutX X lo (lo + q)) := fun e => by
    unfold cellsL; rw [hY, e, cutX_take X hq]
  have hlq : (cutX X lo (lo + q)).length ≤ 1000000 := by rw [cutX_len X (by omega)]; omega
  rcases Nat.eq_zero_or_pos q with rfl | hq0
  · have hn : ¬ lo < lo := by omega
    rw [hcell ht] at k
    try simp only [s00, s3, hn, slcX (X := X) (Nat.le_refl lo) (show lo ≤ X.length by omega), or_false, false_or, Bool.and_self, Bool.and_true, Bool.true_and, Bool.and_false, Bool.false_and, Bool.not_not, Int.cast_ofNat_Int, beq_self_eq_true, Heap.set_same, Heap.set_set, Heap.kill_kset, Int.toNat_natCast, Int.natCast_nonneg, Int.ofNat_lt, Int.ofNat_le, Int.natCast_inj, pmC, pmE, pmS, pmV, pmK, pmQ, pmL, pmX, pmF, pmO, pmA, pmR, pmW, pmB, Option.isSome_some, ft, olds_ints, olds_bools, ↓reduceIte, Nat.reduceEqDiff, reduceCtorEq, Nat.reduceAdd, Nat.reduceMul, Nat.reduceLeDiff, Nat.reduceLT, Int.reduceLE, Int.reduceLT, Int.reduceEq, Int.reduceToNat, Nat.zero_mul, Nat.zero_add, Nat.mul_one, ne_eq, not_false_eq_true, not_true_eq_false, true_and, and_true, decide_true, decide_false, Bool.not_true, Bool.not_false, Bool.false_eq_true, and_self, Nat.add_zero]
    refine ⟨_, Text _ hm' _ _ (by simpa using hlq) _ ⟨rfl, rfl⟩, ?_⟩
    try simp only [or_false, false_or, Bool.and_self, Bool.and_true, Bool.true_and, Bool.and_false, Bool.false_and, Bool.not_not, Int.cast_ofNat_Int, beq_self_eq_true, Heap.set_same, Heap.set_set, Heap.kill_kset, Int.toNat_natCast, Int.natCast_nonneg, Int.ofNat_lt, Int.ofNat_le, Int.natCast_inj, pmC, pmE, pmS, pmV, pmK, pmQ, pmL, pmX, pmF, pmO, pmA, pmR, pmW, pmB, Option.isSome_some, ft, olds_ints, olds_bools, ↓reduceIte, Nat.reduceEqDiff, reduceCtorEq, Nat.reduceAdd, Nat.reduceMul, Nat.reduceLeDiff, Nat.reduceLT, Int.reduceLE, Int.reduceLT, Int.reduceEq, Int.reduceToNat, Nat.zero_mul, Nat.zero_add, Nat.mul_one, ne_eq, not_false_eq_true, not_true_eq_false, true_and, and_true, decide_true, decide_false, Bool.not_true, Bool.not_false, Bool.false_eq_true, and_self, Nat.add_zero]
    exact finK_le (Heap.le_set (Heap.le_refl _) hb) k
  · obtain ⟨n, rfl⟩ : ∃ n, q = n + 1 := ⟨q - 1, by omega⟩
    have hn : lo < lo + (n + 1) := by omega
    have w1 : IntKind.i64.wrap (((lo + (n + 1) : Nat) : Int) - 1) = ((lo + n : Nat) : Int) := by rw [wrap_in (by omega) (by omega)]; omega
    have g1 := getm (PV.int .i64) (X.map classT) (i := lo + n) (by simp; omega)
    have e1 : (X.map classT).getD (lo + n) default = classT (X.getD (lo + n) default) := by simp [List.getD, show lo + n < X.length by omega]
    rw [e1] at g1
    have l1 : lo + n < X.length := by omega
    have hs : spT ((cutX X lo hi).getD n default) = (decide (classT (X.getD (lo + n) default) = 12) || decide (classT (X.getD (lo + n) default) = 10)) := by rw [cutX_get X (by omega) h2, spT]
    have ht2 : trimL (cutX X lo hi) (n + 1) = if (decide (classT (X.getD (lo + n) default) = 12) || decide (classT (X.getD (lo + n) default) = 10)) then trimL (cutX X lo hi) n else n + 1 := by rw [trimL, hs]
    rw [ht2] at ht
    generalize classT (X.getD (lo + n) default) = c at *
    try simp only [s00, s3, hn, or_false, false_or, Bool.and_self, Bool.and_true, Bool.true_and, Bool.and_false, Bool.false_and, Bool.not_not, Int.cast_ofNat_Int, beq_self_eq_true, Heap.set_same, Heap.set_set, Heap.kill_kset, Int.toNat_natCast, Int.natCast_nonneg, Int.ofNat_lt, Int.ofNat_le, Int.natCast_inj, pmC, pmE, pmS, pmV, pmK, pmQ, pmL, pmX, pmF, pmO, pmA, pmR, pmW, pmB, Option.isSome_some, ft, olds_ints, olds_bools, ↓reduceIte, Nat.reduceEqDiff, reduceCtorEq, Nat.reduceAdd, Nat.reduceMul, Nat.reduceLeDiff, Nat.reduceLT, Int.reduceLE, Int.reduceLT, Int.reduceEq, Int.reduceToNat, Nat.zero_mul, Nat.zero_add, Nat.mul_one, ne_eq, not_false_eq_true, not_true_eq_false, true_and, and_true, decide_true, decide_false, Bool.not_true, Bool.not_false, Bool.false_eq_true, and_self, Nat.add_zero]
    try simp only [w1, g1, l1, or_false, false_or, Bool.and_self, Bool.and_true, Bool.true_and, Bool.and_false, Bool.false_and, Bool.not_not, Int.cast_ofNat_Int, beq_self_eq_true, Heap.set_same, Heap.set_set, Heap.kill_kset, Int.toNat_natCast, Int.natCast_nonneg, Int.ofNat_lt, Int.ofNat_le, Int.natCast_inj, pmC, pmE, pmS, pmV, pmK, pmQ, pmL, pmX, pmF, pmO, pmA, pmR, pmW, pmB, Option.isSome_some, ft, olds_ints, olds_bools, ↓reduceIte, Nat.reduceEqDiff, reduceCtorEq, Nat.reduceAdd, Nat.reduceMul, Nat.reduceLeDiff, Nat.reduceLT, Int.reduceLE, Int.reduceLT, Int.reduceEq, Int.reduceToNat, Nat.zero_mul, Nat.zero_add, Nat.mul_one, ne_eq, not_false_eq_true, not_true_eq_false, true_and, and_true, decide_true, decide_false, Bool.not_true, Bool.not_false, Bool.false_eq_true, and_self, Nat.add_zero]
    by_cases q1 : c = 12
    · try simp only [q1, w1, s3, or_false, false_or, Bool.and_self, Bool.and_true, Bool.true_and, Bool.and_false, Bool.false_and, Bool.not_not, Int.cast_ofNat_Int, beq_self_eq_true, Heap.set_same, Heap.set_set, Heap.kill_kset, Int.toNat_natCast, Int.natCast_nonneg, Int.ofNat_lt, Int.ofNat_le, Int.natCast_inj, pmC, pmE, pmS, pmV, pmK, pmQ, pmL, pmX, pmF, pmO, pmA, pmR, pmW, pmB, Option.isSome_some, ft, olds_ints, olds_bools, ↓reduceIte, Nat.reduceEqDiff, reduceCtorEq, Nat.reduceAdd, Nat.reduceMul, Nat.reduceLeDiff, Nat.reduceLT, Int.reduceLE, Int.reduceLT, Int.reduceEq, Int.reduceToNat, Nat.zero_mul, Nat.zero_add, Nat.mul_one, ne_eq, not_false_eq_true, not_true_eq_false, true_and, and_true, decide_true, decide_false, Bool.not_true, Bool.not_false, Bool.false_eq_true, and_self, Nat.add_zero]
      refine next n _ _ (by omega) ⟨rfl, by omega, by rw [ht]; simp [q1], by simp [put, s0], by simp [put, s3]⟩
    · by_cases q2 : c = 10
      · try simp only [q1, q2, w1, s00, s3, g1, l1, or_false, false_or, Bool.and_self, Bool.and_true, Bool.true_and, Bool.and_false, Bool.false_and, Bool.not_not, Int.cast_ofNat_Int, beq_self_eq_true, Heap.set_same, Heap.set_set, Heap.kill_kset, Int.toNat_natCast, Int.natCast_nonneg, Int.ofNat_lt, Int.ofNat_le, Int.natCast_inj, pmC, pmE, pmS, pmV, pmK, pmQ, pmL, pmX, pmF, pmO, pmA, pmR, pmW, pmB, Option.isSome_some, ft, olds_ints, olds_bools, ↓reduceIte, Nat.reduceEqDiff, reduceCtorEq, Nat.reduceAdd, Nat.reduceMul, Nat.reduceLeDiff, Nat.reduceLT, Int.reduceLE, Int.reduceLT, Int.reduceEq, Int.reduceToNat, Nat.zero_mul, Nat.zero_add, Nat.mul_one, ne_eq, not_false_eq_true, not_true_eq_false, true_and, and_true, decide_true, decide_false, Bool.not_true, Bool.not_false, Bool.false_eq_true, and_self, Nat.add_zero]
        refine next n _ _ (by omega) ⟨rfl, by omega, by rw [ht]; simp [q2], by simp [put, s0], by simp [put, s3]⟩
      · have ht3 : trimL (cutX X lo hi) (hi - lo) = n + 1 := by rw [ht]; simp [q1, q2]
        rw [hcell ht3] at k
        have hle1 : lo ≤ lo + (n + 1) := by omega
        have hle2 : lo + (n + 1) ≤ X.length := by omega
        try simp only [q1, q2, w1, s00, s3, g1, l1, slcX (X := X) hle1 hle2, or_false, false_or, Bool.and_self, Bool.and_true, Bool.true_and, Bool.and_false, Bool.false_and, Bool.not_not, Int.cast_ofNat_Int, beq_self_eq_true, Heap.set_same, Heap.set_set, Heap.kill_kset, Int.toNat_natCast, Int.natCast_nonneg, Int.ofNat_lt, Int.ofNat_le, Int.natCast_inj, pmC, pmE, pmS, pmV, pmK, pmQ, pmL, pmX, pmF, pmO, pmA, pmR, pmW, pmB, Option.isSome_some, ft, olds_ints, olds_bools, ↓reduceIte, Nat.reduceEqDiff, reduceCtorEq, Nat.reduceAdd, Nat.reduceMul, Nat.reduceLeDiff, Nat.reduceLT, Int.reduceLE, Int.reduceLT, Int.reduceEq, Int.reduceToNat, Nat.zero_mul, Nat.zero_add, Nat.mul_one, ne_eq, not_false_eq_true, not_true_eq_false, true_and, and_true, decide_true, decide_false, Bool.not_true, Bool.not_false, Bool.false_eq_true, and_self, Nat.add_zero]
        refine ⟨_, Text _ hm' _ _ hlq _ ⟨rfl, rfl⟩, ?_⟩
        try simp only [or_false, false_or, Bool.and_self, Bool.and_true, Bool.true_and, Bool.and_false, Bool.false_and, Bool.not_not, Int.cast_ofNat_Int, beq_self_eq_true, Heap.set_same, Heap.set_set, Heap.kill_kset, Int.toNat_natCast, Int.natCast_nonneg, Int.ofNat_lt, Int.ofNat_le, Int.natCast_inj, pmC, pmE, pmS, pmV, pmK, pmQ, pmL, pmX, pmF, pmO, pmA, pmR, pmW, pmB, Option.isSome_some, ft, olds_ints, olds_bools, ↓reduceIte, Nat.reduceEqDiff, reduceCtorEq, Nat.reduceAdd, Nat.reduceMul, Nat.reduceLeDiff, Nat.reduceLT, Int.reduceLE, Int.reduceLT, Int.reduceEq, Int.reduceToNat, Nat.zero_mul, Nat.zero_add, Nat.mul_one, ne_eq, not_false_eq_true, not_true_eq_false, true_and, and_true, decide_true, decide_false, Bool.not_true, Bool.not_false, Bool.false_eq_true, and_self, Nat.add_zero]
        exact finK_le (Heap.le_set (Heap.le_refl _) hb) k
end Go.Proofs.Ytgmhdkheglnbhaa
