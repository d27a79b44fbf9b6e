/-
  Letters and their forms: the package forms and the document's answer.
  Conditions: none but those that each sentence tells.
-/
import Derived.Test.YtlmfdoilbfgleaaForm0
namespace Go.Proofs.Ytlmfdoilbfgleaa
open Go.Pm
set_option maxRecDepth 100000
set_option linter.unusedSimpArgs false
set_option linter.unusedVariables false

/-- Is it a form, and this code? -/
def isF (c f : Int) : Bool := decide (f ≠ 0) && decide (f = c)
/-- Whose form a code is, which one, and whether it is one. -/
def baseF (gs : List L5) (c : Int) : Int × Int × Bool := match gs.find? (fun p => (fl p).any (isF c)) with
  | none => (0, 0, false)
  | some p => (p.1, findI (isF c) (fl p) 0 + 1, true)
def baseP (gs : List L5) (c : Int) : PV := .tup [.int .i64 (baseF gs c).1, .int .i64 (baseF gs c).2.1, .bool (baseF gs c).2.2]
theorem of_ (c : Int) (h : Heap) {K : PV → Heap → Prop} (k : K (.tup [.agg [.int .i64 (baseF lets c).1, .int .i64 (baseF lets c).2.1], .bool (baseF lets c).2.2]) h) : CanP Try.prog 26 [.int .i64 c] h K := by
  refine e26 rfl ?_
  try simp only [c26, r26_0, r26_1, r26_2, r26_3, r26_4, r26_5, r26_6, r26_7, r26_8, r26_9, r26_10, r26_11, or_false, false_or, Bool.and_self, Bool.and_true, Bool.true_and, Bool.and_false, Bool.false_and, Bool.not_not, Int.cast_ofNat_Int, beq_self_eq_true, Heap.set_same, Heap.set_set, Heap.kill_kset, Int.toNat_natCast, Int.natCast_nonneg, Int.ofNat_lt, Int.ofNat_le, Int.natCast_inj, pmC, pmE, pmS, pmV, pmK, pmQ, pmL, pmX, pmF, pmO, pmA, pmR, pmW, pmB, Option.isSome_some, ft, olds_ints, olds_bools, ↓reduceIte, Nat.reduceEqDiff, reduceCtorEq, Nat.reduceAdd, Nat.reduceMul, Nat.reduceLeDiff, Nat.reduceLT, Int.reduceLE, Int.reduceLT, Int.reduceEq, Int.reduceToNat, Nat.zero_mul, Nat.zero_add, Nat.mul_one, ne_eq, not_false_eq_true, not_true_eq_false, true_and, and_true, decide_true, decide_false, Bool.not_true, Bool.not_false, Bool.false_eq_true, and_self, Nat.add_zero]
  intro b2 hb2
  refine Letters _ ?_
  have hlen : lets.length ≤ 100 := by decide
  generalize lets = gs at *
  obtain ⟨Q, hQ⟩ : ∃ Q : L5 → Bool, Q = fun p => (fl p).any (isF c) := ⟨_, rfl⟩
  have hQ2 : ∀ p, Q p = (fl p).any (isF c) := fun p => by rw [hQ]
  have hbf : baseF gs c = match gs.find? Q with | none => (0, 0, false) | some p => (p.1, findI (isF c) (fl p) 0 + 1, true) := by rw [hQ]; rfl
  clear hQ
  try simp only [or_false, false_or, Bool.and_self, Bool.and_true, Bool.true_and, Bool.and_false, Bool.false_and, Bool.not_not, Int.cast_ofNat_Int, beq_self_eq_true, Heap.set_same, Heap.set_set, Heap.kill_kset, Int.toNat_natCast, Int.natCast_nonneg, Int.ofNat_lt, Int.ofNat_le, Int.natCast_inj, pmC, pmE, pmS, pmV, pmK, pmQ, pmL, pmX, pmF, pmO, pmA, pmR, pmW, pmB, Option.isSome_some, ft, olds_ints, olds_bools, ↓reduceIte, Nat.reduceEqDiff, reduceCtorEq, Nat.reduceAdd, Nat.reduceMul, Nat.reduceLeDiff, Nat.reduceLT, Int.reduceLE, Int.reduceLT, Int.reduceEq, Int.reduceToNat, Nat.zero_mul, Nat.zero_add, Nat.mul_one, ne_eq, not_false_eq_true, not_true_eq_false, true_and, and_true, decide_true, decide_false, Bool.not_true, Bool.not_false, Bool.false_eq_true, and_self, Nat.add_zero]
  refine pwp_up gs.length (fun i σ h' => Own h h' b2 [.int .i64 0, .int .i64 0] ∧ h.le h' ∧ σ 0 = .int .i64 c ∧ σ 2 = .ptr b2 0 ∧ σ 8 = .list true 5 gs.length (gs.flatMap l5) ∧ σ 9 = .int .i64 gs.length ∧ σ 10 = .int .i64 i ∧
    gs.find? Q = (gs.drop i).find? Q) ?_ ?_
  · exact ⟨⟨hb2, Heap.set_same _ _ _⟩, Heap.le_set (Heap.le_refl _) hb2, rfl, rfl, rfl, rfl, rfl, rfl⟩
  · rintro i σ h' K' hi ⟨o, lh, s0, s2, s8, s9, s10, hp⟩ next
    have g2 := o.2
    try simp only [s8, s9, s10, cdK_dec, or_false, false_or, Bool.and_self, Bool.and_true, Bool.true_and, Bool.and_false, Bool.false_and, Bool.not_not, Int.cast_ofNat_Int, beq_self_eq_true, Heap.set_same, Heap.set_set, Heap.kill_kset, Int.toNat_natCast, Int.natCast_nonneg, Int.ofNat_lt, Int.ofNat_le, Int.natCast_inj, pmC, pmE, pmS, pmV, pmK, pmQ, pmL, pmX, pmF, pmO, pmA, pmR, pmW, pmB, Option.isSome_some, ft, olds_ints, olds_bools, ↓reduceIte, Nat.reduceEqDiff, reduceCtorEq, Nat.reduceAdd, Nat.reduceMul, Nat.reduceLeDiff, Nat.reduceLT, Int.reduceLE, Int.reduceLT, Int.reduceEq, Int.reduceToNat, Nat.zero_mul, Nat.zero_add, Nat.mul_one, ne_eq, not_false_eq_true, not_true_eq_false, true_and, and_true, decide_true, decide_false, Bool.not_true, Bool.not_false, Bool.false_eq_true, and_self, Nat.add_zero]
    refine ⟨fun hlt => ?_, fun hge => ?_⟩
    · have hx := flat_at l5 5 l5_len gs hlt
      have hx2 : i * 5 + 5 ≤ (gs.flatMap l5).length := by rw [flat_length l5 5 l5_len]; omega
      rw [drop_getD gs hlt] at hp
      generalize gs.getD i default = p at *
      try simp only [hx, hx2, hlt, s8, s10, l5_len, old_l51, wr_l5, or_false, false_or, Bool.and_self, Bool.and_true, Bool.true_and, Bool.and_false, Bool.false_and, Bool.not_not, Int.cast_ofNat_Int, beq_self_eq_true, Heap.set_same, Heap.set_set, Heap.kill_kset, Int.toNat_natCast, Int.natCast_nonneg, Int.ofNat_lt, Int.ofNat_le, Int.natCast_inj, pmC, pmE, pmS, pmV, pmK, pmQ, pmL, pmX, pmF, pmO, pmA, pmR, pmW, pmB, Option.isSome_some, ft, olds_ints, olds_bools, ↓reduceIte, Nat.reduceEqDiff, reduceCtorEq, Nat.reduceAdd, Nat.reduceMul, Nat.reduceLeDiff, Nat.reduceLT, Int.reduceLE, Int.reduceLT, Int.reduceEq, Int.reduceToNat, Nat.zero_mul, Nat.zero_add, Nat.mul_one, ne_eq, not_false_eq_true, not_true_eq_false, true_and, and_true, decide_true, decide_false, Bool.not_true, Bool.not_false, Bool.false_eq_true, and_self, Nat.add_zero]
      intro b hb
      try simp only [Heap.kill_none hb, l5_len, old_l51, wr_l5, fl_of, or_false, false_or, Bool.and_self, Bool.and_true, Bool.true_and, Bool.and_false, Bool.false_and, Bool.not_not, Int.cast_ofNat_Int, beq_self_eq_true, Heap.set_same, Heap.set_set, Heap.kill_kset, Int.toNat_natCast, Int.natCast_nonneg, Int.ofNat_lt, Int.ofNat_le, Int.natCast_inj, pmC, pmE, pmS, pmV, pmK, pmQ, pmL, pmX, pmF, pmO, pmA, pmR, pmW, pmB, Option.isSome_some, ft, olds_ints, olds_bools, ↓reduceIte, Nat.reduceEqDiff, reduceCtorEq, Nat.reduceAdd, Nat.reduceMul, Nat.reduceLeDiff, Nat.reduceLT, Int.reduceLE, Int.reduceLT, Int.reduceEq, Int.reduceToNat, Nat.zero_mul, Nat.zero_add, Nat.mul_one, ne_eq, not_false_eq_true, not_true_eq_false, true_and, and_true, decide_true, decide_false, Bool.not_true, Bool.not_false, Bool.false_eq_true, and_self, Nat.add_zero]
      refine pwp_up 4 (fun j σ' h'' => h'' = h' ∧ σ' 0 = .int .i64 c ∧ σ' 2 = .ptr b2 0 ∧ (∃ fr, σ' 5 = .fptr fr (l5 p) 0) ∧ σ' 8 = .list true 5 gs.length (gs.flatMap l5) ∧ σ' 9 = .int .i64 gs.length ∧ σ' 10 = .int .i64 i ∧ σ' 15 = .agg ((fl p).map (.int .i64)) ∧ σ' 16 = .int .i64 j ∧
        findI (isF c) (fl p) 0 = findI (isF c) ((fl p).drop j) j) ?_ ?_
      · exact ⟨rfl, by simp [put, s0], by simp [put, s2], ⟨_, rfl⟩, by simp [put, s8], by simp [put, s9], by simp [put, s10], rfl, rfl, rfl⟩
      · rintro j σ' h'' K2 hj ⟨rfl, t0, t2, ⟨fr, t5⟩, t8, t9, t10, t15, t16, hq⟩ next2
        try simp only [t16, cdK_dec, or_false, false_or, Bool.and_self, Bool.and_true, Bool.true_and, Bool.and_false, Bool.false_and, Bool.not_not, Int.cast_ofNat_Int, beq_self_eq_true, Heap.set_same, Heap.set_set, Heap.kill_kset, Int.toNat_natCast, Int.natCast_nonneg, Int.ofNat_lt, Int.ofNat_le, Int.natCast_inj, pmC, pmE, pmS, pmV, pmK, pmQ, pmL, pmX, pmF, pmO, pmA, pmR, pmW, pmB, Option.isSome_some, ft, olds_ints, olds_bools, ↓reduceIte, Nat.reduceEqDiff, reduceCtorEq, Nat.reduceAdd, Nat.reduceMul, Nat.reduceLeDiff, Nat.reduceLT, Int.reduceLE, Int.reduceLT, Int.reduceEq, Int.reduceToNat, Nat.zero_mul, Nat.zero_add, Nat.mul_one, ne_eq, not_false_eq_true, not_true_eq_false, true_and, and_true, decide_true, decide_false, Bool.not_true, Bool.not_false, Bool.false_eq_true, and_self, Nat.add_zero]
        refine ⟨fun hjl => ?_, fun hjg => ?_⟩
        · have hj4 : j < 4 := by omega
          have hj5 : (j : Int) < 4 := by omega
          have hjl' : j < (fl p).length := by rw [fl_len]; omega
          have hy := getm (.int .i64) (fl p) hjl'
          rw [drop_getD (fl p) hjl'] at hq
          have hmem : (fl p).getD j default ∈ fl p := by simp [List.getD, hjl']
          generalize (fl p).getD j default = f at *
          have yes : isF c f = true → baseF gs c = (p.1, (j : Int) + 1, true) := fun e => by
            rw [List.find?_cons_of_pos (by rw [hQ2]; exact List.any_eq_true.2 ⟨f, hmem, e⟩)] at hp
            rw [findI, if_pos e] at hq
            rw [hbf, hp]; simp only [hq]
          have no : isF c f = false → findI (isF c) (fl p) 0 = findI (isF c) ((fl p).drop (j + 1)) (j + 1 : Nat) := fun e => by
            rw [hq, findI, e, if_neg (by simp)]; rfl
          have hw : IntKind.i64.wrap ((j : Int) + 1) = (j : Int) + 1 := wrap_in (by omega) (by omega)
          try simp only [t0, t15, t16, hj4, hj5, hy, Nat.mul_one, hw, or_false, false_or, Bool.and_self, Bool.and_true, Bool.true_and, Bool.and_false, Bool.false_and, Bool.not_not, Int.cast_ofNat_Int, beq_self_eq_true, Heap.set_same, Heap.set_set, Heap.kill_kset, Int.toNat_natCast, Int.natCast_nonneg, Int.ofNat_lt, Int.ofNat_le, Int.natCast_inj, pmC, pmE, pmS, pmV, pmK, pmQ, pmL, pmX, pmF, pmO, pmA, pmR, pmW, pmB, Option.isSome_some, ft, olds_ints, olds_bools, ↓reduceIte, Nat.reduceEqDiff, reduceCtorEq, Nat.reduceAdd, Nat.reduceMul, Nat.reduceLeDiff, Nat.reduceLT, Int.reduceLE, Int.reduceLT, Int.reduceEq, Int.reduceToNat, Nat.zero_mul, Nat.zero_add, Nat.mul_one, ne_eq, not_false_eq_true, not_true_eq_false, true_and, and_true, decide_true, decide_false, Bool.not_true, Bool.not_false, Bool.false_eq_true, and_self, Nat.add_zero]
          by_cases h1 : f = 0
          · have e : isF c f = false := by simp [isF, h1]
            try simp only [h1, t16, hw, or_false, false_or, Bool.and_self, Bool.and_true, Bool.true_and, Bool.and_false, Bool.false_and, Bool.not_not, Int.cast_ofNat_Int, beq_self_eq_true, Heap.set_same, Heap.set_set, Heap.kill_kset, Int.toNat_natCast, Int.natCast_nonneg, Int.ofNat_lt, Int.ofNat_le, Int.natCast_inj, pmC, pmE, pmS, pmV, pmK, pmQ, pmL, pmX, pmF, pmO, pmA, pmR, pmW, pmB, Option.isSome_some, ft, olds_ints, olds_bools, ↓reduceIte, Nat.reduceEqDiff, reduceCtorEq, Nat.reduceAdd, Nat.reduceMul, Nat.reduceLeDiff, Nat.reduceLT, Int.reduceLE, Int.reduceLT, Int.reduceEq, Int.reduceToNat, Nat.zero_mul, Nat.zero_add, Nat.mul_one, ne_eq, not_false_eq_true, not_true_eq_false, true_and, and_true, decide_true, decide_false, Bool.not_true, Bool.not_false, Bool.false_eq_true, and_self, Nat.add_zero]
            exact next2 hj4 _ _ ⟨rfl, by simp [put, t0], by simp [put, t2], ⟨fr, by simp [put, t5]⟩, by simp [put, t8], by simp [put, t9], by simp [put, t10], by simp [put, t15], by simp [put], no e⟩
          · by_cases h2 : f = c
            · have e : isF c f = true := by unfold isF; rw [decide_eq_true h1, decide_eq_true h2]; rfl
              have hd := decide_eq_true h2
              rw [yes e] at k
              try simp only [h1, hd, t0, t2, t5, t16, hw, l5, g2, or_false, false_or, Bool.and_self, Bool.and_true, Bool.true_and, Bool.and_false, Bool.false_and, Bool.not_not, Int.cast_ofNat_Int, beq_self_eq_true, Heap.set_same, Heap.set_set, Heap.kill_kset, Int.toNat_natCast, Int.natCast_nonneg, Int.ofNat_lt, Int.ofNat_le, Int.natCast_inj, pmC, pmE, pmS, pmV, pmK, pmQ, pmL, pmX, pmF, pmO, pmA, pmR, pmW, pmB, Option.isSome_some, ft, olds_ints, olds_bools, ↓reduceIte, Nat.reduceEqDiff, reduceCtorEq, Nat.reduceAdd, Nat.reduceMul, Nat.reduceLeDiff, Nat.reduceLT, Int.reduceLE, Int.reduceLT, Int.reduceEq, Int.reduceToNat, Nat.zero_mul, Nat.zero_add, Nat.mul_one, ne_eq, not_false_eq_true, not_true_eq_false, true_and, and_true, decide_true, decide_false, Bool.not_true, Bool.not_false, Bool.false_eq_true, and_self, Nat.add_zero]
              exact finK_le (o.le lh) k
            · have e : isF c f = false := by simp [isF, h2]
              try simp only [h1, h2, t0, t16, hw, or_false, false_or, Bool.and_self, Bool.and_true, Bool.true_and, Bool.and_false, Bool.false_and, Bool.not_not, Int.cast_ofNat_Int, beq_self_eq_true, Heap.set_same, Heap.set_set, Heap.kill_kset, Int.toNat_natCast, Int.natCast_nonneg, Int.ofNat_lt, Int.ofNat_le, Int.natCast_inj, pmC, pmE, pmS, pmV, pmK, pmQ, pmL, pmX, pmF, pmO, pmA, pmR, pmW, pmB, Option.isSome_some, ft, olds_ints, olds_bools, ↓reduceIte, Nat.reduceEqDiff, reduceCtorEq, Nat.reduceAdd, Nat.reduceMul, Nat.reduceLeDiff, Nat.reduceLT, Int.reduceLE, Int.reduceLT, Int.reduceEq, Int.reduceToNat, Nat.zero_mul, Nat.zero_add, Nat.mul_one, ne_eq, not_false_eq_true, not_true_eq_false, true_and, and_true, decide_true, decide_false, Bool.not_true, Bool.not_false, Bool.false_eq_true, and_self, Nat.add_zero]
              exact next2 hj4 _ _ ⟨rfl, by simp [put, t0], by simp [put, t2], ⟨fr, by simp [put, t5]⟩, by simp [put, t8], by simp [put, t9], by simp [put, t10], by simp [put, t15], by simp [put], no e⟩
        · have hj4 : j = 4 := by omega
          subst hj4
          have hno : ¬ (fl p).any (isF c) = true := by
            rw [List.drop_eq_nil_of_le (by rw [fl_len]; omega)] at hq
            rcases findI_cases (isF c) (fl p) 0 with ⟨_, a⟩ | ⟨q, _, e, _⟩
            · rw [List.any_eq_true]; rintro ⟨x, hx, e⟩; rw [a x hx] at e; cases e
            · rw [e] at hq; simp only [findI] at hq; omega
          rw [List.find?_cons_of_neg (by rw [hQ2]; exact hno)] at hp
          try simp only [t10, or_false, false_or, Bool.and_self, Bool.and_true, Bool.true_and, Bool.and_false, Bool.false_and, Bool.not_not, Int.cast_ofNat_Int, beq_self_eq_true, Heap.set_same, Heap.set_set, Heap.kill_kset, Int.toNat_natCast, Int.natCast_nonneg, Int.ofNat_lt, Int.ofNat_le, Int.natCast_inj, pmC, pmE, pmS, pmV, pmK, pmQ, pmL, pmX, pmF, pmO, pmA, pmR, pmW, pmB, Option.isSome_some, ft, olds_ints, olds_bools, ↓reduceIte, Nat.reduceEqDiff, reduceCtorEq, Nat.reduceAdd, Nat.reduceMul, Nat.reduceLeDiff, Nat.reduceLT, Int.reduceLE, Int.reduceLT, Int.reduceEq, Int.reduceToNat, Nat.zero_mul, Nat.zero_add, Nat.mul_one, ne_eq, not_false_eq_true, not_true_eq_false, true_and, and_true, decide_true, decide_false, Bool.not_true, Bool.not_false, Bool.false_eq_true, and_self, Nat.add_zero]
          rw [wrap_in (by omega) (by omega)]
          exact next hlt _ _ ⟨o, lh, by simp [put, t0], by simp [put, t2], by simp [put, t8], by simp [put, t9], by simp [put], hp⟩
    · rw [List.drop_eq_nil_of_le (by omega)] at hp
      rw [hbf, hp] at k
      try simp only [s2, g2, or_false, false_or, Bool.and_self, Bool.and_true, Bool.true_and, Bool.and_false, Bool.false_and, Bool.not_not, Int.cast_ofNat_Int, beq_self_eq_true, Heap.set_same, Heap.set_set, Heap.kill_kset, Int.toNat_natCast, Int.natCast_nonneg, Int.ofNat_lt, Int.ofNat_le, Int.natCast_inj, pmC, pmE, pmS, pmV, pmK, pmQ, pmL, pmX, pmF, pmO, pmA, pmR, pmW, pmB, Option.isSome_some, ft, olds_ints, olds_bools, ↓reduceIte, Nat.reduceEqDiff, reduceCtorEq, Nat.reduceAdd, Nat.reduceMul, Nat.reduceLeDiff, Nat.reduceLT, Int.reduceLE, Int.reduceLT, Int.reduceEq, Int.reduceToNat, Nat.zero_mul, Nat.zero_add, Nat.mul_one, ne_eq, not_false_eq_true, not_true_eq_false, true_and, and_true, decide_true, decide_false, Bool.not_true, Bool.not_false, Bool.false_eq_true, and_self, Nat.add_zero]
      exact finK_le (o.le lh) k
theorem Base (c : Int) (h : Heap) {K : PV → Heap → Prop} (k : K (baseP lets c) h) : CanP Try.prog 7 [.int .i64 c] h K := by
  refine e7 rfl ?_
  try simp only [c7, r7_0, r7_1, r7_2, or_false, false_or, Bool.and_self, Bool.and_true, Bool.true_and, Bool.and_false, Bool.false_and, Bool.not_not, Int.cast_ofNat_Int, beq_self_eq_true, Heap.set_same, Heap.set_set, Heap.kill_kset, Int.toNat_natCast, Int.natCast_nonneg, Int.ofNat_lt, Int.ofNat_le, Int.natCast_inj, pmC, pmE, pmS, pmV, pmK, pmQ, pmL, pmX, pmF, pmO, pmA, pmR, pmW, pmB, Option.isSome_some, ft, olds_ints, olds_bools, ↓reduceIte, Nat.reduceEqDiff, reduceCtorEq, Nat.reduceAdd, Nat.reduceMul, Nat.reduceLeDiff, Nat.reduceLT, Int.reduceLE, Int.reduceLT, Int.reduceEq, Int.reduceToNat, Nat.zero_mul, Nat.zero_add, Nat.mul_one, ne_eq, not_false_eq_true, not_true_eq_false, true_and, and_true, decide_true, decide_false, Bool.not_true, Bool.not_false, Bool.false_eq_true, and_self, Nat.add_zero]
  refine of_ _ _ ?_
  try simp only [or_false, false_or, Bool.and_self, Bool.and_true, Bool.true_and, Bool.and_false, Bool.false_and, Bool.not_not, Int.cast_ofNat_Int, beq_self_eq_true, Heap.set_same, Heap.set_set, Heap.kill_kset, Int.toNat_natCast, Int.natCast_nonneg, Int.ofNat_lt, Int.ofNat_le, Int.natCast_inj, pmC, pmE, pmS, pmV, pmK, pmQ, pmL, pmX, pmF, pmO, pmA, pmR, pmW, pmB, Option.isSome_some, ft, olds_ints, olds_bools, ↓reduceIte, Nat.reduceEqDiff, reduceCtorEq, Nat.reduceAdd, Nat.reduceMul, Nat.reduceLeDiff, Nat.reduceLT, Int.reduceLE, Int.reduceLT, Int.reduceEq, Int.reduceToNat, Nat.zero_mul, Nat.zero_add, Nat.mul_one, ne_eq, not_false_eq_true, not_true_eq_false, true_and, and_true, decide_true, decide_false, Bool.not_true, Bool.not_false, Bool.false_eq_true, and_self, Nat.add_zero]
  intro b hb
  try simp only [Heap.kill_none hb, or_false, false_or, Bool.and_self, Bool.and_true, Bool.true_and, Bool.and_false, Bool.false_and, Bool.not_not, Int.cast_ofNat_Int, beq_self_eq_true, Heap.set_same, Heap.set_set, Heap.kill_kset, Int.toNat_natCast, Int.natCast_nonneg, Int.ofNat_lt, Int.ofNat_le, Int.natCast_inj, pmC, pmE, pmS, pmV, pmK, pmQ, pmL, pmX, pmF, pmO, pmA, pmR, pmW, pmB, Option.isSome_some, ft, olds_ints, olds_bools, ↓reduceIte, Nat.reduceEqDiff, reduceCtorEq, Nat.reduceAdd, Nat.reduceMul, Nat.reduceLeDiff, Nat.reduceLT, Int.reduceLE, Int.reduceLT, Int.reduceEq, Int.reduceToNat, Nat.zero_mul, Nat.zero_add, Nat.mul_one, ne_eq, not_false_eq_true, not_true_eq_false, true_and, and_true, decide_true, decide_false, Bool.not_true, Bool.not_false, Bool.false_eq_true, and_self, Nat.add_zero]
  exact finK_le (Heap.le_refl _) k
theorem BaseR (c : Int) (h : Heap) {K : PV → Heap → Prop} (k : K (baseP lets c) h) : CanP Try.prog 8 [.int .i64 c] h K := by
  refine e8 rfl ?_
  try simp only [c8, r8_0, r8_1, r8_2, r8_3, r8_4, r8_5, r8_6, r8_7, r8_8, r8_9, r8_10, or_false, false_or, Bool.and_self, Bool.and_true, Bool.true_and, Bool.and_false, Bool.false_and, Bool.not_not, Int.cast_ofNat_Int, beq_self_eq_true, Heap.set_same, Heap.set_set, Heap.kill_kset, Int.toNat_natCast, Int.natCast_nonneg, Int.ofNat_lt, Int.ofNat_le, Int.natCast_inj, pmC, pmE, pmS, pmV, pmK, pmQ, pmL, pmX, pmF, pmO, pmA, pmR, pmW, pmB, Option.isSome_some, ft, olds_ints, olds_bools, ↓reduceIte, Nat.reduceEqDiff, reduceCtorEq, Nat.reduceAdd, Nat.reduceMul, Nat.reduceLeDiff, Nat.reduceLT, Int.reduceLE, Int.reduceLT, Int.reduceEq, Int.reduceToNat, Nat.zero_mul, Nat.zero_add, Nat.mul_one, ne_eq, not_false_eq_true, not_true_eq_false, true_and, and_true, decide_true, decide_false, Bool.not_true, Bool.not_false, Bool.false_eq_true, and_self, Nat.add_zero]
  refine Letters _ ?_
  have hlen : lets.length ≤ 100 := by decide
  generalize lets = gs at *
  obtain ⟨Q, hQ⟩ : ∃ Q : L5 → Bool, Q = fun p => (fl p).any (isF c) := ⟨_, rfl⟩
  have hQ2 : ∀ p, Q p = (fl p).any (isF c) := fun p => by rw [hQ]
  have hbf : baseF gs c = match gs.find? Q with | none => (0, 0, false) | some p => (p.1, findI (isF c) (fl p) 0 + 1, true) := by rw [hQ]; rfl
  clear hQ
  rw [baseP] at k
  try simp only [or_false, false_or, Bool.and_self, Bool.and_true, Bool.true_and, Bool.and_false, Bool.false_and, Bool.not_not, Int.cast_ofNat_Int, beq_self_eq_true, Heap.set_same, Heap.set_set, Heap.kill_kset, Int.toNat_natCast, Int.natCast_nonneg, Int.ofNat_lt, Int.ofNat_le, Int.natCast_inj, pmC, pmE, pmS, pmV, pmK, pmQ, pmL, pmX, pmF, pmO, pmA, pmR, pmW, pmB, Option.isSome_some, ft, olds_ints, olds_bools, ↓reduceIte, Nat.reduceEqDiff, reduceCtorEq, Nat.reduceAdd, Nat.reduceMul, Nat.reduceLeDiff, Nat.reduceLT, Int.reduceLE, Int.reduceLT, Int.reduceEq, Int.reduceToNat, Nat.zero_mul, Nat.zero_add, Nat.mul_one, ne_eq, not_false_eq_true, not_true_eq_false, true_and, and_true, decide_true, decide_false, Bool.not_true, Bool.not_false, Bool.false_eq_true, and_self, Nat.add_zero]
  refine pwp_up gs.length (fun i σ h' => h' = h ∧ σ 0 = .int .i64 c ∧ σ 5 = .list true 5 gs.length (gs.flatMap l5) ∧ σ 6 = .int .i64 i ∧ gs.find? Q = (gs.drop i).find? Q) ?_ ?_
  · exact ⟨rfl, rfl, rfl, rfl, rfl⟩
  · rintro i σ h' K' hi ⟨rfl, s0, s5, s6, hp⟩ next
    try simp only [s5, s6, cdK_dec, or_false, false_or, Bool.and_self, Bool.and_true, Bool.true_and, Bool.and_false, Bool.false_and, Bool.not_not, Int.cast_ofNat_Int, beq_self_eq_true, Heap.set_same, Heap.set_set, Heap.kill_kset, Int.toNat_natCast, Int.natCast_nonneg, Int.ofNat_lt, Int.ofNat_le, Int.natCast_inj, pmC, pmE, pmS, pmV, pmK, pmQ, pmL, pmX, pmF, pmO, pmA, pmR, pmW, pmB, Option.isSome_some, ft, olds_ints, olds_bools, ↓reduceIte, Nat.reduceEqDiff, reduceCtorEq, Nat.reduceAdd, Nat.reduceMul, Nat.reduceLeDiff, Nat.reduceLT, Int.reduceLE, Int.reduceLT, Int.reduceEq, Int.reduceToNat, Nat.zero_mul, Nat.zero_add, Nat.mul_one, ne_eq, not_false_eq_true, not_true_eq_false, true_and, and_true, decide_true, decide_false, Bool.not_true, Bool.not_false, Bool.false_eq_true, and_self, Nat.add_zero]
    refine ⟨fun hlt => ?_, fun hge => ?_⟩
    · have x0 := flat_get l5 5 l5_len gs hlt (j := 0) (by omega)
      rw [Nat.add_zero] at x0
      have xj := fun (j : Nat) (hj : j + 1 < 5) => flat_get l5 5 l5_len gs hlt (j := j + 1) hj
      rw [drop_getD gs hlt] at hp
      generalize gs.getD i default = p at *
      try simp only [s6, or_false, false_or, Bool.and_self, Bool.and_true, Bool.true_and, Bool.and_false, Bool.false_and, Bool.not_not, Int.cast_ofNat_Int, beq_self_eq_true, Heap.set_same, Heap.set_set, Heap.kill_kset, Int.toNat_natCast, Int.natCast_nonneg, Int.ofNat_lt, Int.ofNat_le, Int.natCast_inj, pmC, pmE, pmS, pmV, pmK, pmQ, pmL, pmX, pmF, pmO, pmA, pmR, pmW, pmB, Option.isSome_some, ft, olds_ints, olds_bools, ↓reduceIte, Nat.reduceEqDiff, reduceCtorEq, Nat.reduceAdd, Nat.reduceMul, Nat.reduceLeDiff, Nat.reduceLT, Int.reduceLE, Int.reduceLT, Int.reduceEq, Int.reduceToNat, Nat.zero_mul, Nat.zero_add, Nat.mul_one, ne_eq, not_false_eq_true, not_true_eq_false, true_and, and_true, decide_true, decide_false, Bool.not_true, Bool.not_false, Bool.false_eq_true, and_self, Nat.add_zero]
      refine pwp_up 4 (fun j σ' h'' => h'' = h' ∧ σ' 0 = .int .i64 c ∧ σ' 5 = .list true 5 gs.length (gs.flatMap l5) ∧ σ' 6 = .int .i64 i ∧ σ' 7 = .int .i64 j ∧
        findI (isF c) (fl p) 0 = findI (isF c) ((fl p).drop j) j) ?_ ?_
      · exact ⟨rfl, by simp [put, s0], by simp [put, s5], by simp [put, s6], rfl, rfl⟩
      · rintro j σ' h'' K2 hj ⟨rfl, t0, t5, t6, t7, hq⟩ next2
        try simp only [t7, cdK_dec, or_false, false_or, Bool.and_self, Bool.and_true, Bool.true_and, Bool.and_false, Bool.false_and, Bool.not_not, Int.cast_ofNat_Int, beq_self_eq_true, Heap.set_same, Heap.set_set, Heap.kill_kset, Int.toNat_natCast, Int.natCast_nonneg, Int.ofNat_lt, Int.ofNat_le, Int.natCast_inj, pmC, pmE, pmS, pmV, pmK, pmQ, pmL, pmX, pmF, pmO, pmA, pmR, pmW, pmB, Option.isSome_some, ft, olds_ints, olds_bools, ↓reduceIte, Nat.reduceEqDiff, reduceCtorEq, Nat.reduceAdd, Nat.reduceMul, Nat.reduceLeDiff, Nat.reduceLT, Int.reduceLE, Int.reduceLT, Int.reduceEq, Int.reduceToNat, Nat.zero_mul, Nat.zero_add, Nat.mul_one, ne_eq, not_false_eq_true, not_true_eq_false, true_and, and_true, decide_true, decide_false, Bool.not_true, Bool.not_false, Bool.false_eq_true, and_self, Nat.add_zero]
        refine ⟨fun hjl => ?_, fun hjg => ?_⟩
        · have hj4 : j < 4 := by omega
          have hj5 : (j : Int) < 4 := by omega
          have hjl' : j < (fl p).length := by rw [fl_len]; omega
          have hy := getm (PV.int .i64) (fl p) hjl'
          have xj := xj j (by omega)
          rw [show (l5 p)[j + 1]? = ((fl p).map (PV.int .i64))[j]? from rfl, hy] at xj
          have hadd : i * 5 + (j + 1) = i * 5 + 1 + j := by omega
          rw [hadd] at xj
          rw [drop_getD (fl p) hjl'] at hq
          have hmem : (fl p).getD j default ∈ fl p := by simp [List.getD, hjl']
          generalize (fl p).getD j default = f at *
          have yes : isF c f = true → baseF gs c = (p.1, (j : Int) + 1, true) := fun e => by
            rw [List.find?_cons_of_pos (by rw [hQ2]; exact List.any_eq_true.2 ⟨f, hmem, e⟩)] at hp
            rw [findI, if_pos e] at hq
            rw [hbf, hp]; simp only [hq]
          have no : isF c f = false → findI (isF c) (fl p) 0 = findI (isF c) ((fl p).drop (j + 1)) (j + 1 : Nat) := fun e => by
            rw [hq, findI, e, if_neg (by simp)]; rfl
          have hw : IntKind.i64.wrap ((j : Int) + 1) = (j : Int) + 1 := wrap_in (by omega) (by omega)
          by_cases h1 : c = 0
          · have e : isF c f = false := by simp only [isF, h1]; by_cases hf : f = 0 <;> simp [hf]
            try simp only [h1, t0, t5, t6, t7, hw, or_false, false_or, Bool.and_self, Bool.and_true, Bool.true_and, Bool.and_false, Bool.false_and, Bool.not_not, Int.cast_ofNat_Int, beq_self_eq_true, Heap.set_same, Heap.set_set, Heap.kill_kset, Int.toNat_natCast, Int.natCast_nonneg, Int.ofNat_lt, Int.ofNat_le, Int.natCast_inj, pmC, pmE, pmS, pmV, pmK, pmQ, pmL, pmX, pmF, pmO, pmA, pmR, pmW, pmB, Option.isSome_some, ft, olds_ints, olds_bools, ↓reduceIte, Nat.reduceEqDiff, reduceCtorEq, Nat.reduceAdd, Nat.reduceMul, Nat.reduceLeDiff, Nat.reduceLT, Int.reduceLE, Int.reduceLT, Int.reduceEq, Int.reduceToNat, Nat.zero_mul, Nat.zero_add, Nat.mul_one, ne_eq, not_false_eq_true, not_true_eq_false, true_and, and_true, decide_true, decide_false, Bool.not_true, Bool.not_false, Bool.false_eq_true, and_self, Nat.add_zero]
            exact next2 hj4 _ _ ⟨rfl, by simp [put, t0, h1], by simp [put, t5], by simp [put, t6], by simp [put], no e⟩
          · by_cases h2 : f = c
            · have e : isF c f = true := by unfold isF; rw [decide_eq_true h2, decide_eq_true (show f ≠ 0 from fun e => h1 (h2 ▸ e))]; rfl
              have hd := decide_eq_true h2
              rw [yes e] at k
              rw [show (l5 p)[0]? = some (PV.int .i64 p.1) from rfl] at x0
              try simp only [h1, hd, t0, t5, t6, t7, hlt, hj4, hj5, Nat.mul_one, xj, hw, x0, or_false, false_or, Bool.and_self, Bool.and_true, Bool.true_and, Bool.and_false, Bool.false_and, Bool.not_not, Int.cast_ofNat_Int, beq_self_eq_true, Heap.set_same, Heap.set_set, Heap.kill_kset, Int.toNat_natCast, Int.natCast_nonneg, Int.ofNat_lt, Int.ofNat_le, Int.natCast_inj, pmC, pmE, pmS, pmV, pmK, pmQ, pmL, pmX, pmF, pmO, pmA, pmR, pmW, pmB, Option.isSome_some, ft, olds_ints, olds_bools, ↓reduceIte, Nat.reduceEqDiff, reduceCtorEq, Nat.reduceAdd, Nat.reduceMul, Nat.reduceLeDiff, Nat.reduceLT, Int.reduceLE, Int.reduceLT, Int.reduceEq, Int.reduceToNat, Nat.zero_mul, Nat.zero_add, Nat.mul_one, ne_eq, not_false_eq_true, not_true_eq_false, true_and, and_true, decide_true, decide_false, Bool.not_true, Bool.not_false, Bool.false_eq_true, and_self, Nat.add_zero]
              exact finK_le (Heap.le_refl _) k
            · have e : isF c f = false := by simp [isF, h2]
              try simp only [h1, h2, t0, t5, t6, t7, hlt, hj4, hj5, Nat.mul_one, xj, hw, or_false, false_or, Bool.and_self, Bool.and_true, Bool.true_and, Bool.and_false, Bool.false_and, Bool.not_not, Int.cast_ofNat_Int, beq_self_eq_true, Heap.set_same, Heap.set_set, Heap.kill_kset, Int.toNat_natCast, Int.natCast_nonneg, Int.ofNat_lt, Int.ofNat_le, Int.natCast_inj, pmC, pmE, pmS, pmV, pmK, pmQ, pmL, pmX, pmF, pmO, pmA, pmR, pmW, pmB, Option.isSome_some, ft, olds_ints, olds_bools, ↓reduceIte, Nat.reduceEqDiff, reduceCtorEq, Nat.reduceAdd, Nat.reduceMul, Nat.reduceLeDiff, Nat.reduceLT, Int.reduceLE, Int.reduceLT, Int.reduceEq, Int.reduceToNat, Nat.zero_mul, Nat.zero_add, Nat.mul_one, ne_eq, not_false_eq_true, not_true_eq_false, true_and, and_true, decide_true, decide_false, Bool.not_true, Bool.not_false, Bool.false_eq_true, and_self, Nat.add_zero]
              exact next2 hj4 _ _ ⟨rfl, by simp [put, t0], by simp [put, t5], by simp [put, t6], by simp [put], no e⟩
        · have hj4 : j = 4 := by omega
          subst hj4
          have hno : ¬ (fl p).any (isF c) = true := by
            rw [List.drop_eq_nil_of_le (by rw [fl_len]; omega)] at hq
            rcases findI_cases (isF c) (fl p) 0 with ⟨_, a⟩ | ⟨q, _, e, _⟩
            · rw [List.any_eq_true]; rintro ⟨x, hx, e⟩; rw [a x hx] at e; cases e
            · rw [e] at hq; simp only [findI] at hq; omega
          rw [List.find?_cons_of_neg (by rw [hQ2]; exact hno)] at hp
          try simp only [t6, or_false, false_or, Bool.and_self, Bool.and_true, Bool.true_and, Bool.and_false, Bool.false_and, Bool.not_not, Int.cast_ofNat_Int, beq_self_eq_true, Heap.set_same, Heap.set_set, Heap.kill_kset, Int.toNat_natCast, Int.natCast_nonneg, Int.ofNat_lt, Int.ofNat_le, Int.natCast_inj, pmC, pmE, pmS, pmV, pmK, pmQ, pmL, pmX, pmF, pmO, pmA, pmR, pmW, pmB, Option.isSome_some, ft, olds_ints, olds_bools, ↓reduceIte, Nat.reduceEqDiff, reduceCtorEq, Nat.reduceAdd, Nat.reduceMul, Nat.reduceLeDiff, Nat.reduceLT, Int.reduceLE, Int.reduceLT, Int.reduceEq, Int.reduceToNat, Nat.zero_mul, Nat.zero_add, Nat.mul_one, ne_eq, not_false_eq_true, not_true_eq_false, true_and, and_true, decide_true, decide_false, Bool.not_true, Bool.not_false, Bool.false_eq_true, and_self, Nat.add_zero]
          rw [wrap_in (by omega) (by omega)]
          exact next hlt _ _ ⟨rfl, by simp [put, t0], by simp [put, t5], by simp [put], hp⟩
    · rw [List.drop_eq_nil_of_le (by omega)] at hp
      rw [hbf, hp] at k
      try simp only [s5, or_false, false_or, Bool.and_self, Bool.and_true, Bool.true_and, Bool.and_false, Bool.false_and, Bool.not_not, Int.cast_ofNat_Int, beq_self_eq_true, Heap.set_same, Heap.set_set, Heap.kill_kset, Int.toNat_natCast, Int.natCast_nonneg, Int.ofNat_lt, Int.ofNat_le, Int.natCast_inj, pmC, pmE, pmS, pmV, pmK, pmQ, pmL, pmX, pmF, pmO, pmA, pmR, pmW, pmB, Option.isSome_some, ft, olds_ints, olds_bools, ↓reduceIte, Nat.reduceEqDiff, reduceCtorEq, Nat.reduceAdd, Nat.reduceMul, Nat.reduceLeDiff, Nat.reduceLT, Int.reduceLE, Int.reduceLT, Int.reduceEq, Int.reduceToNat, Nat.zero_mul, Nat.zero_add, Nat.mul_one, ne_eq, not_false_eq_true, not_true_eq_false, true_and, and_true, decide_true, decide_false, Bool.not_true, Bool.not_false, Bool.false_eq_true, and_self, Nat.add_zero]
      exact finK_le (Heap.le_refl _) k
end Go.Proofs.Ytlmfdoilbfgleaa
