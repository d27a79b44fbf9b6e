/-
  The law LamalefOnce.
  Conditions: none but those that each sentence tells.
-/
import Derived.Test.YtnlpmgofeboieaaLam2
import Derived.Test.YtnlpmgofeboieaaProps3
namespace Go.Proofs.Ytnlpmgofeboieaa
open Go.Pm
set_option maxRecDepth 100000
set_option linter.unusedSimpArgs false
set_option linter.unusedVariables false

/-- A pair stands where lam and alef come together. -/
theorem prs_mem (X T : List Int) (thr : Bool) : ∀ (i : Nat) (q : Int × Int), q ∈ prs X T thr i → ∃ m : Nat, m < i ∧ lamB X T thr m = true ∧ q = ((m : Int), behZ T m)
  | 0, q, h => by simp [prs] at h
  | i + 1, q, h => by
    unfold prs at h
    split at h
    · rename_i hb
      rcases List.mem_append.1 h with h | h
      · obtain ⟨m, a, b, c⟩ := prs_mem X T thr i q h; exact ⟨m, by omega, b, c⟩
      · rw [List.mem_singleton] at h; exact ⟨i, by omega, hb, h⟩
    · obtain ⟨m, a, b, c⟩ := prs_mem X T thr i q h; exact ⟨m, by omega, b, c⟩
theorem lam_free (X : List Int) (thr : Bool) (m i : Nat) (hm : m < i) (hi : i < X.length) (h1 : lamB X (X.map joinT) thr m = true) (h2 : lamB X (X.map joinT) thr i = true) : behZ (X.map joinT) m < i := by
  have e1 : alefB 1604 = false := by kernel_rfl
  have e2 : notT (joinT 1604) = true := by kernel_rfl
  simp only [lamB, Bool.and_eq_true, decide_eq_true_eq] at h1 h2
  obtain ⟨_, b0, al, _⟩ := h1
  obtain ⟨x1, _⟩ := h2
  have hb := behZ_lt (X.map joinT) m
  by_cases q : behZ (X.map joinT) m = i
  · rw [q] at al
    simp only [Int.toNat_natCast, x1, e1] at al
    cases al
  · by_cases q2 : behZ (X.map joinT) m < i
    · exact q2
    · exfalso
      have hlt : (i : Int) < behZ (X.map joinT) m := by omega
      unfold behZ at hlt b0
      have hmm : (0 : Int) ≤ (m : Int) ∧ (m : Int) < (X.map joinT).length := by simp; omega
      rw [if_pos hmm] at hlt b0
      rcases findI_cases notT ((X.map joinT).drop ((m : Int).toNat + 1)) ((m : Int) + 1) with ⟨e, _⟩ | ⟨j, j1, j2, j3, j4⟩
      · omega
      · have := j4 (i - (m + 1)) (by omega)
        have e : (List.drop ((m : Int).toNat + 1) (X.map joinT)).getD (i - (m + 1)) default = joinT (X.getD i default) := by
          simp only [Int.toNat_natCast, List.getD, List.getElem?_drop, List.getElem?_map]
          rw [show m + 1 + (i - (m + 1)) = i by omega, List.getElem?_eq_getElem hi]; rfl
        rw [e, x1, e2] at this
        cases this
theorem prs_pw (X : List Int) (thr : Bool) : ∀ i : Nat, i ≤ X.length → (prs X (X.map joinT) thr i).Pairwise (fun p q => p.2 < q.1)
  | 0, _ => by simp [prs]
  | i + 1, hi => by
    have ih := prs_pw X thr i (by omega)
    unfold prs
    split
    · rename_i hb
      rw [List.pairwise_append]
      refine ⟨ih, by simp, fun p hp q hq => ?_⟩
      rw [List.mem_singleton] at hq
      subst hq
      obtain ⟨m, m1, m2, rfl⟩ := prs_mem _ _ _ _ _ hp
      exact lam_free X thr m i m1 (by omega) m2 hb
    · exact ih
def wseen (S : List Bool) (q : Int × Int) : Prop := S.getD q.1.toNat false = false ∧ S.getD q.2.toNat false = false
theorem law_LamalefOnce (X : List Int) (thr : Bool) (hX : X.length ≤ 9223372036854775806) (h : Heap) {K : PV → Heap → Prop} (k : K (.bool true) h) :
    CanP Try.prog 5 [.list false 1 X.length (X.map (.int .i64)), .bool thr] h K := by
  refine e5 rfl ?_
  try simp only [c5, r5_0, r5_1, r5_2, r5_3, r5_4, r5_5, r5_6, r5_7, r5_8, r5_9, r5_10, r5_11, r5_12, r5_13, r5_14, r5_15, or_false, false_or, Bool.and_self, Bool.and_true, Bool.true_and, Bool.and_false, Bool.false_and, Bool.not_not, Int.cast_ofNat_Int, beq_self_eq_true, Heap.set_same, Heap.set_set, Heap.kill_kset, Int.toNat_natCast, Int.natCast_nonneg, Int.ofNat_lt, Int.ofNat_le, Int.natCast_inj, pmC, pmE, pmS, pmV, pmK, pmQ, pmL, pmX, pmF, pmO, pmA, pmR, pmW, pmB, Option.isSome_some, ft, olds_ints, olds_bools, ↓reduceIte, Nat.reduceEqDiff, reduceCtorEq, Nat.reduceAdd, Nat.reduceMul, Nat.reduceLeDiff, Nat.reduceLT, Int.reduceLE, Int.reduceLT, Int.reduceEq, Int.reduceToNat, Nat.zero_mul, Nat.zero_add, Nat.mul_one, ne_eq, not_false_eq_true, not_true_eq_false, true_and, and_true, decide_true, decide_false, Bool.not_true, Bool.not_false, Bool.false_eq_true, and_self, Nat.add_zero]
  by_cases g1 : (300 : Int) < X.length
  · try simp only [g1, or_false, false_or, Bool.and_self, Bool.and_true, Bool.true_and, Bool.and_false, Bool.false_and, Bool.not_not, Int.cast_ofNat_Int, beq_self_eq_true, Heap.set_same, Heap.set_set, Heap.kill_kset, Int.toNat_natCast, Int.natCast_nonneg, Int.ofNat_lt, Int.ofNat_le, Int.natCast_inj, pmC, pmE, pmS, pmV, pmK, pmQ, pmL, pmX, pmF, pmO, pmA, pmR, pmW, pmB, Option.isSome_some, ft, olds_ints, olds_bools, ↓reduceIte, Nat.reduceEqDiff, reduceCtorEq, Nat.reduceAdd, Nat.reduceMul, Nat.reduceLeDiff, Nat.reduceLT, Int.reduceLE, Int.reduceLT, Int.reduceEq, Int.reduceToNat, Nat.zero_mul, Nat.zero_add, Nat.mul_one, ne_eq, not_false_eq_true, not_true_eq_false, true_and, and_true, decide_true, decide_false, Bool.not_true, Bool.not_false, Bool.false_eq_true, and_self, Nat.add_zero]
    refine awake _ ?_
    try simp only [or_false, false_or, Bool.and_self, Bool.and_true, Bool.true_and, Bool.and_false, Bool.false_and, Bool.not_not, Int.cast_ofNat_Int, beq_self_eq_true, Heap.set_same, Heap.set_set, Heap.kill_kset, Int.toNat_natCast, Int.natCast_nonneg, Int.ofNat_lt, Int.ofNat_le, Int.natCast_inj, pmC, pmE, pmS, pmV, pmK, pmQ, pmL, pmX, pmF, pmO, pmA, pmR, pmW, pmB, Option.isSome_some, ft, olds_ints, olds_bools, ↓reduceIte, Nat.reduceEqDiff, reduceCtorEq, Nat.reduceAdd, Nat.reduceMul, Nat.reduceLeDiff, Nat.reduceLT, Int.reduceLE, Int.reduceLT, Int.reduceEq, Int.reduceToNat, Nat.zero_mul, Nat.zero_add, Nat.mul_one, ne_eq, not_false_eq_true, not_true_eq_false, true_and, and_true, decide_true, decide_false, Bool.not_true, Bool.not_false, Bool.false_eq_true, and_self, Nat.add_zero]
    exact finK_le (Heap.le_refl _) k
  · try simp only [g1, or_false, false_or, Bool.and_self, Bool.and_true, Bool.true_and, Bool.and_false, Bool.false_and, Bool.not_not, Int.cast_ofNat_Int, beq_self_eq_true, Heap.set_same, Heap.set_set, Heap.kill_kset, Int.toNat_natCast, Int.natCast_nonneg, Int.ofNat_lt, Int.ofNat_le, Int.natCast_inj, pmC, pmE, pmS, pmV, pmK, pmQ, pmL, pmX, pmF, pmO, pmA, pmR, pmW, pmB, Option.isSome_some, ft, olds_ints, olds_bools, ↓reduceIte, Nat.reduceEqDiff, reduceCtorEq, Nat.reduceAdd, Nat.reduceMul, Nat.reduceLeDiff, Nat.reduceLT, Int.reduceLE, Int.reduceLT, Int.reduceEq, Int.reduceToNat, Nat.zero_mul, Nat.zero_add, Nat.mul_one, ne_eq, not_false_eq_true, not_true_eq_false, true_and, and_true, decide_true, decide_false, Bool.not_true, Bool.not_false, Bool.false_eq_true, and_self, Nat.add_zero]
    refine New _ fun p hp => ?_
    try simp only [or_false, false_or, Bool.and_self, Bool.and_true, Bool.true_and, Bool.and_false, Bool.false_and, Bool.not_not, Int.cast_ofNat_Int, beq_self_eq_true, Heap.set_same, Heap.set_set, Heap.kill_kset, Int.toNat_natCast, Int.natCast_nonneg, Int.ofNat_lt, Int.ofNat_le, Int.natCast_inj, pmC, pmE, pmS, pmV, pmK, pmQ, pmL, pmX, pmF, pmO, pmA, pmR, pmW, pmB, Option.isSome_some, ft, olds_ints, olds_bools, ↓reduceIte, Nat.reduceEqDiff, reduceCtorEq, Nat.reduceAdd, Nat.reduceMul, Nat.reduceLeDiff, Nat.reduceLT, Int.reduceLE, Int.reduceLT, Int.reduceEq, Int.reduceToNat, Nat.zero_mul, Nat.zero_add, Nat.mul_one, ne_eq, not_false_eq_true, not_true_eq_false, true_and, and_true, decide_true, decide_false, Bool.not_true, Bool.not_false, Bool.false_eq_true, and_self, Nat.add_zero]
    refine Joins _ hp _ _ (by omega) _ ?_
    try simp only [or_false, false_or, Bool.and_self, Bool.and_true, Bool.true_and, Bool.and_false, Bool.false_and, Bool.not_not, Int.cast_ofNat_Int, beq_self_eq_true, Heap.set_same, Heap.set_set, Heap.kill_kset, Int.toNat_natCast, Int.natCast_nonneg, Int.ofNat_lt, Int.ofNat_le, Int.natCast_inj, pmC, pmE, pmS, pmV, pmK, pmQ, pmL, pmX, pmF, pmO, pmA, pmR, pmW, pmB, Option.isSome_some, ft, olds_ints, olds_bools, ↓reduceIte, Nat.reduceEqDiff, reduceCtorEq, Nat.reduceAdd, Nat.reduceMul, Nat.reduceLeDiff, Nat.reduceLT, Int.reduceLE, Int.reduceLT, Int.reduceEq, Int.reduceToNat, Nat.zero_mul, Nat.zero_add, Nat.mul_one, ne_eq, not_false_eq_true, not_true_eq_false, true_and, and_true, decide_true, decide_false, Bool.not_true, Bool.not_false, Bool.false_eq_true, and_self, Nat.add_zero]
    refine ⟨Nat.le_refl _, by omega, by omega, fun b hb => ?_⟩
    have f1 := fun (fr fr2 : Bool) (h : Heap) (K : PV → Heap → Prop) => Find fr fr2 X (X.map joinT) (by omega) (by rw [List.length_map]; omega) thr h (K := K)
    have fb := fun (fr : Bool) (i : Int) (h : Heap) (K : PV → Heap → Prop) => Behind fr (X.map joinT) (by rw [List.length_map]; omega) i h (K := K)
    rw [List.length_map] at f1 fb
    refine f1 _ _ _ _ ?_
    have eA : prsA X (X.map joinT) thr = prs X (X.map joinT) thr X.length := by unfold prsA; rw [if_pos (by simp)]
    have hL : (prsA X (X.map joinT) thr).length ≤ X.length := by rw [eA]; exact prs_len X _ thr _
    have hM : ∀ q ∈ prsA X (X.map joinT) thr, ∃ m : Nat, m < X.length ∧ lamB X (X.map joinT) thr m = true ∧ q = ((m : Int), behZ (X.map joinT) m) := by rw [eA]; exact prs_mem X _ thr _
    have hP : (prsA X (X.map joinT) thr).Pairwise (fun p q => p.2 < q.1) := by rw [eA]; exact prs_pw X thr _ (Nat.le_refl _)
    clear eA
    generalize prsA X (X.map joinT) thr = A at *
    try simp only [or_false, false_or, Bool.and_self, Bool.and_true, Bool.true_and, Bool.and_false, Bool.false_and, Bool.not_not, Int.cast_ofNat_Int, beq_self_eq_true, Heap.set_same, Heap.set_set, Heap.kill_kset, Int.toNat_natCast, Int.natCast_nonneg, Int.ofNat_lt, Int.ofNat_le, Int.natCast_inj, pmC, pmE, pmS, pmV, pmK, pmQ, pmL, pmX, pmF, pmO, pmA, pmR, pmW, pmB, Option.isSome_some, ft, olds_ints, olds_bools, ↓reduceIte, Nat.reduceEqDiff, reduceCtorEq, Nat.reduceAdd, Nat.reduceMul, Nat.reduceLeDiff, Nat.reduceLT, Int.reduceLE, Int.reduceLT, Int.reduceEq, Int.reduceToNat, Nat.zero_mul, Nat.zero_add, Nat.mul_one, ne_eq, not_false_eq_true, not_true_eq_false, true_and, and_true, decide_true, decide_false, Bool.not_true, Bool.not_false, Bool.false_eq_true, and_self, Nat.add_zero]
    refine pwp_up A.length (fun i σ h' => h.le h' ∧ (∃ S : List Bool, h'.f b = some (S.map .bool) ∧ S.length = X.length ∧ ∀ q ∈ A.drop i, wseen S q) ∧ σ 0 = .list false 1 X.length (X.map (.int .i64)) ∧ σ 1 = .bool thr ∧ (∃ fr, σ 6 = .list fr 1 X.length ((X.map joinT).map (.int .i64))) ∧ σ 7 = .buf b 1 0 X.length ∧ (∃ fr, σ 24 = .list fr 2 A.length (A.flatMap sp)) ∧ σ 25 = .int .i64 A.length ∧ σ 26 = .int .i64 i) ?_ ?_
    · refine ⟨Heap.le_set (Heap.le_refl _) hb, ⟨List.replicate X.length false, ?_, by simp, fun q _ => ?_⟩, rfl, rfl, ⟨_, rfl⟩, rfl, ⟨_, rfl⟩, rfl, rfl⟩
      · rw [Heap.set_same, rep_map PV.bool false]
      · unfold wseen; simp [List.getD, List.getElem?_replicate]; constructor <;> split <;> rfl
    · rintro i σ h' K' hi ⟨lh, ⟨S, hS, hSl, hSw⟩, s0, s1, ⟨fr6, s6⟩, s7, ⟨fr24, s24⟩, s25, s26⟩ next
      try simp only [s24, s25, s26, cdK_dec, or_false, false_or, Bool.and_self, Bool.and_true, Bool.true_and, Bool.and_false, Bool.false_and, Bool.not_not, Int.cast_ofNat_Int, beq_self_eq_true, Heap.set_same, Heap.set_set, Heap.kill_kset, Int.toNat_natCast, Int.natCast_nonneg, Int.ofNat_lt, Int.ofNat_le, Int.natCast_inj, pmC, pmE, pmS, pmV, pmK, pmQ, pmL, pmX, pmF, pmO, pmA, pmR, pmW, pmB, Option.isSome_some, ft, olds_ints, olds_bools, ↓reduceIte, Nat.reduceEqDiff, reduceCtorEq, Nat.reduceAdd, Nat.reduceMul, Nat.reduceLeDiff, Nat.reduceLT, Int.reduceLE, Int.reduceLT, Int.reduceEq, Int.reduceToNat, Nat.zero_mul, Nat.zero_add, Nat.mul_one, ne_eq, not_false_eq_true, not_true_eq_false, true_and, and_true, decide_true, decide_false, Bool.not_true, Bool.not_false, Bool.false_eq_true, and_self, Nat.add_zero]
      refine ⟨fun hlt => ?_, fun hge => ?_⟩
      · have hx := flat_at sp 2 sp_len A hlt
        have hx2 : i * 2 + 2 ≤ (A.flatMap sp).length := by rw [flat_length sp 2 sp_len]; omega
        have hmem : A.getD i default ∈ A := by simp [List.getD, hlt]
        rw [drop_getD A hlt] at hSw
        have hpw : ∀ q ∈ A.drop (i + 1), (A.getD i default).2 < q.1 := by
          have := hP.sublist (List.drop_sublist i A)
          rw [drop_getD A hlt] at this
          exact (List.pairwise_cons.1 this).1
        have hM2 : ∀ q ∈ A.drop (i + 1), ∃ m : Nat, m < X.length ∧ lamB X (X.map joinT) thr m = true ∧ q = ((m : Int), behZ (X.map joinT) m) := fun q hq => hM q (List.mem_of_mem_drop hq)
        obtain ⟨m, m1, m2, m3⟩ := hM _ hmem
        obtain ⟨w1, w2⟩ := hSw _ (List.mem_cons_self ..)
        rw [m3] at hx hpw w1 w2
        have hb3 := behZ_lt (X.map joinT) m
        rw [List.length_map] at hb3
        have hbl := m2
        simp only [lamB, Bool.and_eq_true, decide_eq_true_eq] at hbl
        obtain ⟨l1, l2, l3, l4⟩ := hbl
        have gx := getm (.int .i64) X m1
        rw [l1] at gx
        have fbm := fun fr h K => fb fr (m : Int) h K
        obtain ⟨z, hz⟩ : ∃ z : Nat, behZ (X.map joinT) m = (z : Int) := ⟨_, (Int.toNat_of_nonneg l2).symm⟩
        rw [hz] at hx hpw w1 w2 hb3 l2 l3 l4 fbm
        simp only [Int.toNat_natCast] at w1 w2 l3
        have hz1 : z < X.length := by omega
        have hmz : m < z := by have := hb3.2.2 l2; omega
        have gz := getm (.int .i64) X hz1
        generalize X.getD z default = xz at *
        have gS : ∀ j : Nat, j < X.length → S.getD j false = false → (S.map PV.bool)[j]? = some (.bool false) := fun j hj e => by
          rw [List.getElem?_map]
          have : S[j]? = some (S.getD j false) := by simp [List.getD, show j < S.length by omega]
          rw [this, e]; rfl
        have gm := gS m m1 w1
        have gz2 := gS z hz1 w2
        have n1 : ¬ ((m : Int) < 0) := by omega
        have n2 : ¬ ((X.length : Int) ≤ z) := by omega
        have n3 : ¬ ((z : Int) ≤ m) := by omega
        have w3 : IntKind.i64.wrap ((m : Int) + 1) = (m : Int) + 1 := wrap_in (by omega) (by omega)
        have hw : IntKind.i64.wrap ((i : Int) + 1) = (i : Int) + 1 := wrap_in (by omega) (by omega)
        have hlz : (m : Int) < X.length := by omega
        have hlz2 : (z : Int) < X.length := by omega
        have n0 : ¬ ((z : Int) ≤ m) := by omega
        try simp only [s24, s26, hx, hx2, hlt, sp, or_false, false_or, Bool.and_self, Bool.and_true, Bool.true_and, Bool.and_false, Bool.false_and, Bool.not_not, Int.cast_ofNat_Int, beq_self_eq_true, Heap.set_same, Heap.set_set, Heap.kill_kset, Int.toNat_natCast, Int.natCast_nonneg, Int.ofNat_lt, Int.ofNat_le, Int.natCast_inj, pmC, pmE, pmS, pmV, pmK, pmQ, pmL, pmX, pmF, pmO, pmA, pmR, pmW, pmB, Option.isSome_some, ft, olds_ints, olds_bools, ↓reduceIte, Nat.reduceEqDiff, reduceCtorEq, Nat.reduceAdd, Nat.reduceMul, Nat.reduceLeDiff, Nat.reduceLT, Int.reduceLE, Int.reduceLT, Int.reduceEq, Int.reduceToNat, Nat.zero_mul, Nat.zero_add, Nat.mul_one, ne_eq, not_false_eq_true, not_true_eq_false, true_and, and_true, decide_true, decide_false, Bool.not_true, Bool.not_false, Bool.false_eq_true, and_self, Nat.add_zero]
        intro b2 hb2
        try simp only [Heap.kill_none hb2, n1, n2, n3, s0, s7, hS, hlz, hlz2, gm, gz2, gx, gz, or_false, false_or, Bool.and_self, Bool.and_true, Bool.true_and, Bool.and_false, Bool.false_and, Bool.not_not, Int.cast_ofNat_Int, beq_self_eq_true, Heap.set_same, Heap.set_set, Heap.kill_kset, Int.toNat_natCast, Int.natCast_nonneg, Int.ofNat_lt, Int.ofNat_le, Int.natCast_inj, pmC, pmE, pmS, pmV, pmK, pmQ, pmL, pmX, pmF, pmO, pmA, pmR, pmW, pmB, Option.isSome_some, ft, olds_ints, olds_bools, ↓reduceIte, Nat.reduceEqDiff, reduceCtorEq, Nat.reduceAdd, Nat.reduceMul, Nat.reduceLeDiff, Nat.reduceLT, Int.reduceLE, Int.reduceLT, Int.reduceEq, Int.reduceToNat, Nat.zero_mul, Nat.zero_add, Nat.mul_one, ne_eq, not_false_eq_true, not_true_eq_false, true_and, and_true, decide_true, decide_false, Bool.not_true, Bool.not_false, Bool.false_eq_true, and_self, Nat.add_zero]
        have hSl2 : (S.map PV.bool).length = X.length := by rw [List.length_map, hSl]
        have c1 : m + 1 ≤ (S.map PV.bool).length := by omega
        have c2 : z + 1 ≤ (S.map PV.bool).length := by omega
        refine Alef _ _ ?_
        rw [l3]
        try simp only [n1, n2, n3, s0, s6, s7, hS, hlz, hlz2, hSl2, or_false, false_or, Bool.and_self, Bool.and_true, Bool.true_and, Bool.and_false, Bool.false_and, Bool.not_not, Int.cast_ofNat_Int, beq_self_eq_true, Heap.set_same, Heap.set_set, Heap.kill_kset, Int.toNat_natCast, Int.natCast_nonneg, Int.ofNat_lt, Int.ofNat_le, Int.natCast_inj, pmC, pmE, pmS, pmV, pmK, pmQ, pmL, pmX, pmF, pmO, pmA, pmR, pmW, pmB, Option.isSome_some, ft, olds_ints, olds_bools, ↓reduceIte, Nat.reduceEqDiff, reduceCtorEq, Nat.reduceAdd, Nat.reduceMul, Nat.reduceLeDiff, Nat.reduceLT, Int.reduceLE, Int.reduceLT, Int.reduceEq, Int.reduceToNat, Nat.zero_mul, Nat.zero_add, Nat.mul_one, ne_eq, not_false_eq_true, not_true_eq_false, true_and, and_true, decide_true, decide_false, Bool.not_true, Bool.not_false, Bool.false_eq_true, and_self, Nat.add_zero]
        have e1 : wr (S.map PV.bool) m [PV.bool true] = (S.set m true).map PV.bool := wr_map PV.bool true S (by omega)
        have e2 : wr ((S.set m true).map PV.bool) z [PV.bool true] = ((S.set m true).set z true).map PV.bool := wr_map PV.bool true (S.set m true) (by simp; omega)
        rw [e1, e2]
        refine ⟨by omega, by simp; omega, .int .i64 z, fbm _ _ _ ⟨rfl, rfl⟩, ?_⟩
        have fin2 : ∀ q ∈ A.drop (i + 1), wseen ((S.set m true).set z true) q := fun q hq => by
          have h1 := hSw q (List.mem_cons_of_mem _ hq)
          have h2 := hpw q hq
          have h2 : (z : Int) < q.1 := h2
          obtain ⟨m', a1, a2, a3⟩ := hM2 q hq
          have hb4 := behZ_lt (X.map joinT) m'
          simp only [lamB, Bool.and_eq_true, decide_eq_true_eq] at a2
          have := hb4.2.2 a2.2.1
          have q1 : q.1 = m' := by rw [a3]
          have q2 : q.2 = behZ (X.map joinT) m' := by rw [a3]
          unfold wseen at h1 ⊢
          simp only [List.getD, List.getElem?_set] at h1 ⊢
          rw [if_neg (by omega), if_neg (by omega), if_neg (by omega), if_neg (by omega)]
          exact h1
        have le2 : h.le (h'.set b (((S.set m true).set z true).map PV.bool)) := Heap.le_set lh hb
        cases thr
        · have l5 : (z : Int) = (m : Int) + 1 := by simpa using l4
          try simp only [s1, w3, l5, s26, hw, or_false, false_or, Bool.and_self, Bool.and_true, Bool.true_and, Bool.and_false, Bool.false_and, Bool.not_not, Int.cast_ofNat_Int, beq_self_eq_true, Heap.set_same, Heap.set_set, Heap.kill_kset, Int.toNat_natCast, Int.natCast_nonneg, Int.ofNat_lt, Int.ofNat_le, Int.natCast_inj, pmC, pmE, pmS, pmV, pmK, pmQ, pmL, pmX, pmF, pmO, pmA, pmR, pmW, pmB, Option.isSome_some, ft, olds_ints, olds_bools, ↓reduceIte, Nat.reduceEqDiff, reduceCtorEq, Nat.reduceAdd, Nat.reduceMul, Nat.reduceLeDiff, Nat.reduceLT, Int.reduceLE, Int.reduceLT, Int.reduceEq, Int.reduceToNat, Nat.zero_mul, Nat.zero_add, Nat.mul_one, ne_eq, not_false_eq_true, not_true_eq_false, true_and, and_true, decide_true, decide_false, Bool.not_true, Bool.not_false, Bool.false_eq_true, and_self, Nat.add_zero]
          exact next hlt _ _ ⟨by rw [l5] at *; exact le2, ⟨_, Heap.set_same _ _ _, by simp [hSl], fin2⟩, by simp [put, s0], by simp [put, s1], ⟨fr6, by simp [put, s6]⟩, by simp [put, s7], ⟨fr24, by simp [put, s24]⟩, by simp [put, s25], by simp [put]⟩
        · try simp only [s1, s26, hw, or_false, false_or, Bool.and_self, Bool.and_true, Bool.true_and, Bool.and_false, Bool.false_and, Bool.not_not, Int.cast_ofNat_Int, beq_self_eq_true, Heap.set_same, Heap.set_set, Heap.kill_kset, Int.toNat_natCast, Int.natCast_nonneg, Int.ofNat_lt, Int.ofNat_le, Int.natCast_inj, pmC, pmE, pmS, pmV, pmK, pmQ, pmL, pmX, pmF, pmO, pmA, pmR, pmW, pmB, Option.isSome_some, ft, olds_ints, olds_bools, ↓reduceIte, Nat.reduceEqDiff, reduceCtorEq, Nat.reduceAdd, Nat.reduceMul, Nat.reduceLeDiff, Nat.reduceLT, Int.reduceLE, Int.reduceLT, Int.reduceEq, Int.reduceToNat, Nat.zero_mul, Nat.zero_add, Nat.mul_one, ne_eq, not_false_eq_true, not_true_eq_false, true_and, and_true, decide_true, decide_false, Bool.not_true, Bool.not_false, Bool.false_eq_true, and_self, Nat.add_zero]
          exact next hlt _ _ ⟨le2, ⟨_, Heap.set_same _ _ _, by simp [hSl], fin2⟩, by simp [put, s0], by simp [put, s1], ⟨fr6, by simp [put, s6]⟩, by simp [put, s7], ⟨fr24, by simp [put, s24]⟩, by simp [put, s25], by simp [put]⟩
      · try simp only [or_false, false_or, Bool.and_self, Bool.and_true, Bool.true_and, Bool.and_false, Bool.false_and, Bool.not_not, Int.cast_ofNat_Int, beq_self_eq_true, Heap.set_same, Heap.set_set, Heap.kill_kset, Int.toNat_natCast, Int.natCast_nonneg, Int.ofNat_lt, Int.ofNat_le, Int.natCast_inj, pmC, pmE, pmS, pmV, pmK, pmQ, pmL, pmX, pmF, pmO, pmA, pmR, pmW, pmB, Option.isSome_some, ft, olds_ints, olds_bools, ↓reduceIte, Nat.reduceEqDiff, reduceCtorEq, Nat.reduceAdd, Nat.reduceMul, Nat.reduceLeDiff, Nat.reduceLT, Int.reduceLE, Int.reduceLT, Int.reduceEq, Int.reduceToNat, Nat.zero_mul, Nat.zero_add, Nat.mul_one, ne_eq, not_false_eq_true, not_true_eq_false, true_and, and_true, decide_true, decide_false, Bool.not_true, Bool.not_false, Bool.false_eq_true, and_self, Nat.add_zero]
        refine awake _ ?_
        try simp only [or_false, false_or, Bool.and_self, Bool.and_true, Bool.true_and, Bool.and_false, Bool.false_and, Bool.not_not, Int.cast_ofNat_Int, beq_self_eq_true, Heap.set_same, Heap.set_set, Heap.kill_kset, Int.toNat_natCast, Int.natCast_nonneg, Int.ofNat_lt, Int.ofNat_le, Int.natCast_inj, pmC, pmE, pmS, pmV, pmK, pmQ, pmL, pmX, pmF, pmO, pmA, pmR, pmW, pmB, Option.isSome_some, ft, olds_ints, olds_bools, ↓reduceIte, Nat.reduceEqDiff, reduceCtorEq, Nat.reduceAdd, Nat.reduceMul, Nat.reduceLeDiff, Nat.reduceLT, Int.reduceLE, Int.reduceLT, Int.reduceEq, Int.reduceToNat, Nat.zero_mul, Nat.zero_add, Nat.mul_one, ne_eq, not_false_eq_true, not_true_eq_false, true_and, and_true, decide_true, decide_false, Bool.not_true, Bool.not_false, Bool.false_eq_true, and_self, Nat.add_zero]
        exact finK_le lh k
def kinds_LamalefOnce : List AKind := [.row [some .i64] 8, .one none]
theorem all_LamalefOnce (pvs : List PV) (h : IsArgs kinds_LamalefOnce pvs) : CanP Try.prog 5 pvs Heap.nil (fun v _ => v = .bool true) := by
  obtain ⟨p, r2, rfl, ⟨rows, hr, hz, hl, rfl⟩, q, r, rfl, ⟨a, rfl⟩, rfl⟩ := h
  obtain ⟨X, rfl, hy⟩ := rows_of (fun x => [.int .i64 x]) _ fits_int hr
  rw [flat_ints]
  simp only [List.length_map] at hl hz ⊢
  exact law_LamalefOnce X a (by omega) _ rfl
end Go.Proofs.Ytnlpmgofeboieaa
