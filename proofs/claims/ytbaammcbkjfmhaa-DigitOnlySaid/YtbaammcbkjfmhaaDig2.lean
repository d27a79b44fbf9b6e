/-
  The laws DigitOnly and DigitTwice.
  Conditions: none but those that each sentence tells.
-/
import Derived.Test.YtbaammcbkjfmhaaDig1
namespace Go.Proofs.Ytbaammcbkjfmhaa
open Go.Pm
set_option maxRecDepth 100000
set_option linter.unusedSimpArgs false
set_option linter.unusedVariables false

theorem awake (h : Heap) {K : PV → Heap → Prop} (k : K (.bool true) h) : CanP Try.prog 5 [] h K := by
  refine e5 rfl ?_
  have e1 : textT [49, 1575, 49] 3 false = [49, 1575, 1633] := by kernel_rfl
  have e2 : oneT 53 true true = 1781 := by kernel_rfl
  try simp only [c5, r5_0, r5_1, or_false, false_or, Bool.and_self, Bool.and_true, Bool.true_and, Bool.and_false, Bool.false_and, Bool.not_not, Int.cast_ofNat_Int, beq_self_eq_true, Heap.set_same, Heap.set_set, Heap.kill_kset, Int.toNat_natCast, Int.natCast_nonneg, Int.ofNat_lt, Int.ofNat_le, Int.natCast_inj, pmC, pmE, pmS, pmV, pmK, pmQ, pmL, pmX, pmF, pmO, pmA, pmR, pmW, pmB, Option.isSome_some, ft, olds_ints, olds_bools, ↓reduceIte, Nat.reduceEqDiff, reduceCtorEq, Nat.reduceAdd, Nat.reduceMul, Nat.reduceLeDiff, Nat.reduceLT, Int.reduceLE, Int.reduceLT, Int.reduceEq, Int.reduceToNat, Nat.zero_mul, Nat.zero_add, Nat.mul_one, ne_eq, not_false_eq_true, not_true_eq_false, true_and, and_true, decide_true, decide_false, Bool.not_true, Bool.not_false, Bool.false_eq_true, and_self, Nat.add_zero]
  refine New _ fun p hp => ?_
  try simp only [or_false, false_or, Bool.and_self, Bool.and_true, Bool.true_and, Bool.and_false, Bool.false_and, Bool.not_not, Int.cast_ofNat_Int, beq_self_eq_true, Heap.set_same, Heap.set_set, Heap.kill_kset, Int.toNat_natCast, Int.natCast_nonneg, Int.ofNat_lt, Int.ofNat_le, Int.natCast_inj, pmC, pmE, pmS, pmV, pmK, pmQ, pmL, pmX, pmF, pmO, pmA, pmR, pmW, pmB, Option.isSome_some, ft, olds_ints, olds_bools, ↓reduceIte, Nat.reduceEqDiff, reduceCtorEq, Nat.reduceAdd, Nat.reduceMul, Nat.reduceLeDiff, Nat.reduceLT, Int.reduceLE, Int.reduceLT, Int.reduceEq, Int.reduceToNat, Nat.zero_mul, Nat.zero_add, Nat.mul_one, ne_eq, not_false_eq_true, not_true_eq_false, true_and, and_true, decide_true, decide_false, Bool.not_true, Bool.not_false, Bool.false_eq_true, and_self, Nat.add_zero]
  refine Text _ hp _ [49, 1575, 49] (by decide) (by intro x hx; simp at hx; omega) 3 false _ ?_
  rw [e1]
  try simp only [or_false, false_or, Bool.and_self, Bool.and_true, Bool.true_and, Bool.and_false, Bool.false_and, Bool.not_not, Int.cast_ofNat_Int, beq_self_eq_true, Heap.set_same, Heap.set_set, Heap.kill_kset, Int.toNat_natCast, Int.natCast_nonneg, Int.ofNat_lt, Int.ofNat_le, Int.natCast_inj, pmC, pmE, pmS, pmV, pmK, pmQ, pmL, pmX, pmF, pmO, pmA, pmR, pmW, pmB, Option.isSome_some, ft, olds_ints, olds_bools, ↓reduceIte, Nat.reduceEqDiff, reduceCtorEq, Nat.reduceAdd, Nat.reduceMul, Nat.reduceLeDiff, Nat.reduceLT, Int.reduceLE, Int.reduceLT, Int.reduceEq, Int.reduceToNat, Nat.zero_mul, Nat.zero_add, Nat.mul_one, ne_eq, not_false_eq_true, not_true_eq_false, true_and, and_true, decide_true, decide_false, Bool.not_true, Bool.not_false, Bool.false_eq_true, and_self, Nat.add_zero]
  refine EqualI2 _ _ [49, 1575, 1633] [49, 1575, 1633] _ _ rfl rfl (by decide) _ ?_
  try simp only [or_false, false_or, Bool.and_self, Bool.and_true, Bool.true_and, Bool.and_false, Bool.false_and, Bool.not_not, Int.cast_ofNat_Int, beq_self_eq_true, Heap.set_same, Heap.set_set, Heap.kill_kset, Int.toNat_natCast, Int.natCast_nonneg, Int.ofNat_lt, Int.ofNat_le, Int.natCast_inj, pmC, pmE, pmS, pmV, pmK, pmQ, pmL, pmX, pmF, pmO, pmA, pmR, pmW, pmB, Option.isSome_some, ft, olds_ints, olds_bools, ↓reduceIte, Nat.reduceEqDiff, reduceCtorEq, Nat.reduceAdd, Nat.reduceMul, Nat.reduceLeDiff, Nat.reduceLT, Int.reduceLE, Int.reduceLT, Int.reduceEq, Int.reduceToNat, Nat.zero_mul, Nat.zero_add, Nat.mul_one, ne_eq, not_false_eq_true, not_true_eq_false, true_and, and_true, decide_true, decide_false, Bool.not_true, Bool.not_false, Bool.false_eq_true, and_self, Nat.add_zero]
  refine One 53 (by decide) true true _ ?_
  rw [e2]
  try simp only [or_false, false_or, Bool.and_self, Bool.and_true, Bool.true_and, Bool.and_false, Bool.false_and, Bool.not_not, Int.cast_ofNat_Int, beq_self_eq_true, Heap.set_same, Heap.set_set, Heap.kill_kset, Int.toNat_natCast, Int.natCast_nonneg, Int.ofNat_lt, Int.ofNat_le, Int.natCast_inj, pmC, pmE, pmS, pmV, pmK, pmQ, pmL, pmX, pmF, pmO, pmA, pmR, pmW, pmB, Option.isSome_some, ft, olds_ints, olds_bools, ↓reduceIte, Nat.reduceEqDiff, reduceCtorEq, Nat.reduceAdd, Nat.reduceMul, Nat.reduceLeDiff, Nat.reduceLT, Int.reduceLE, Int.reduceLT, Int.reduceEq, Int.reduceToNat, Nat.zero_mul, Nat.zero_add, Nat.mul_one, ne_eq, not_false_eq_true, not_true_eq_false, true_and, and_true, decide_true, decide_false, Bool.not_true, Bool.not_false, Bool.false_eq_true, and_self, Nat.add_zero]
  exact finK_le (Heap.le_refl _) k
theorem one_dig (c : Int) (ar ea : Bool) : ((digT c).2 = 0 → oneT c ar ea = c) ∧ (0 < (digT c).2 → (digT (oneT c ar ea)).2 ≠ 0 ∧ (digT (oneT c ar ea)).1 = (digT c).1) := by
  unfold oneT whT
  by_cases a : 48 ≤ c ∧ c < 58
  · refine ⟨fun e => by simp [digT, a] at e, fun _ => ?_⟩
    cases ar <;> cases ea <;> simp only [a, and_self, if_true, digT, reduceIte] <;> simp <;> (repeat' split) <;> simp <;> omega
  · by_cases b : 1632 ≤ c ∧ c < 1642
    · refine ⟨fun e => by simp [digT, a, b] at e, fun _ => ?_⟩
      cases ar <;> cases ea <;> simp only [a, b, and_self, if_true, if_false, digT, reduceIte] <;> simp <;> (repeat' split) <;> simp <;> omega
    · by_cases d : 1776 ≤ c ∧ c < 1786
      · refine ⟨fun e => by simp [digT, a, b, d] at e, fun _ => ?_⟩
        cases ar <;> cases ea <;> simp only [a, b, d, and_self, if_true, if_false, digT, reduceIte] <;> simp <;> (repeat' split) <;> simp <;> omega
      · simp [digT, a, b, d]
theorem text_or (l : List Int) (mode : Int) (ea : Bool) (i : Nat) (h : i < l.length) : (textT l mode ea).getD i default = l.getD i default ∨ ∃ ar, (textT l mode ea).getD i default = oneT (l.getD i default) ar ea := by
  unfold textT
  split
  · exact .inr ⟨true, by simp [List.getD, h]⟩
  · split
    · exact .inr ⟨false, by simp [List.getD, h]⟩
    · split
      · rw [ctx_at ea l _ i h]; split
        · exact .inr ⟨true, rfl⟩
        · exact .inl rfl
      · split
        · rw [ctx_at ea l _ i h]; split
          · exact .inr ⟨true, rfl⟩
          · exact .inl rfl
        · exact .inl rfl
/-- What the law asks of each place. -/
theorem text_dig (l : List Int) (mode : Int) (ea : Bool) (i : Nat) (h : i < l.length) : ((digT (l.getD i default)).2 = 0 → (textT l mode ea).getD i default = l.getD i default) ∧ (0 < (digT (l.getD i default)).2 → (digT ((textT l mode ea).getD i default)).2 ≠ 0 ∧ (digT (l.getD i default)).1 = (digT ((textT l mode ea).getD i default)).1) := by
  rcases text_or l mode ea i h with e | ⟨ar, e⟩
  · rw [e]; exact ⟨fun _ => rfl, fun q => ⟨by omega, rfl⟩⟩
  · rw [e]; have := one_dig (l.getD i default) ar ea; exact ⟨this.1, fun q => ⟨(this.2 q).1, (this.2 q).2.symm⟩⟩
theorem dig_in (c : Int) : 0 ≤ (digT c).2 := by unfold digT; (repeat' split) <;> simp
theorem one_one (c : Int) (ar ea : Bool) : oneT (oneT c ar ea) ar ea = oneT c ar ea := by
  unfold oneT whT
  by_cases a : 48 ≤ c ∧ c < 58
  · cases ar <;> cases ea <;> simp only [a, and_self, if_true, reduceIte] <;> simp <;> (repeat' split) <;> simp <;> omega
  · by_cases b : 1632 ≤ c ∧ c < 1642
    · cases ar <;> cases ea <;> simp only [a, b, and_self, if_true, if_false, reduceIte] <;> simp <;> (repeat' split) <;> simp <;> omega
    · by_cases d : 1776 ≤ c ∧ c < 1786
      · cases ar <;> cases ea <;> simp only [a, b, d, and_self, if_true, if_false, reduceIte] <;> simp <;> (repeat' split) <;> simp <;> omega
      · simp [a, b, d]
theorem weak (c : Int) (h : 0 < (whT c).2) : strongT c = false := by
  have t : ∀ n : Nat, n < 10 → strongT (48 + n) = false ∧ strongT (1632 + n) = false ∧ strongT (1776 + n) = false := by decide +kernel
  unfold whT at h
  by_cases a : 48 ≤ c ∧ c < 58
  · have := (t (c - 48).toNat (by omega)).1
    rwa [show (48 : Int) + (c - 48).toNat = c by omega] at this
  · by_cases b : 1632 ≤ c ∧ c < 1642
    · have := (t (c - 1632).toNat (by omega)).2.1
      rwa [show (1632 : Int) + (c - 1632).toNat = c by omega] at this
    · by_cases d : 1776 ≤ c ∧ c < 1786
      · have := (t (c - 1776).toNat (by omega)).2.2
        rwa [show (1776 : Int) + (c - 1776).toNat = c by omega] at this
      · simp [a, b, d] at h
theorem one_wh (c : Int) (ar ea : Bool) : oneT c ar ea = c ∨ (0 < (whT c).2 ∧ 0 < (whT (oneT c ar ea)).2) := by
  unfold oneT whT
  by_cases a : 48 ≤ c ∧ c < 58
  · cases ar <;> cases ea <;> simp only [a, and_self, if_true, reduceIte] <;> simp <;> (repeat' split) <;> simp <;> omega
  · by_cases b : 1632 ≤ c ∧ c < 1642
    · cases ar <;> cases ea <;> simp only [a, b, and_self, if_true, if_false, reduceIte] <;> simp <;> (repeat' split) <;> simp <;> omega
    · by_cases d : 1776 ≤ c ∧ c < 1786
      · cases ar <;> cases ea <;> simp only [a, b, d, and_self, if_true, if_false, reduceIte] <;> simp <;> (repeat' split) <;> simp <;> omega
      · simp [a, b, d]
theorem one_strong (c : Int) (ea : Bool) : strongT (oneT c true ea) = strongT c ∧ (strongT c = true → oneT c true ea = c) := by
  rcases one_wh c true ea with e | ⟨p, q⟩
  · rw [e]; exact ⟨rfl, fun _ => rfl⟩
  · rw [weak _ p, weak _ q]; exact ⟨rfl, fun e => by cases e⟩
theorem ctx_twice (ea : Bool) : ∀ (l : List Int) (b : Bool), ctxT ea b (ctxT ea b l) = ctxT ea b l
  | [], _ => rfl
  | c :: l, b => by
    simp only [ctxT]
    cases hs : strongT c
    · cases b
      · simp [hs, ctx_twice ea l]
      · simp [hs, ctx_twice ea l, one_one, (one_strong c ea).1]
    · have e := (one_strong c ea).2 hs
      have e2 : ∀ d : Bool, (if d = true then oneT c true ea else c) = c := fun d => by cases d <;> simp [e]
      simp only [if_true, hs, e2, ctx_twice ea l]
theorem text_twice (l : List Int) (mode : Int) (ea : Bool) : textT (textT l mode ea) mode ea = textT l mode ea := by
  by_cases m1 : mode = 1
  · simp [textT, m1, one_one]
  · by_cases m2 : mode = 2
    · simp [textT, m2, one_one]
    · by_cases m3 : mode = 3
      · simp [textT, m3, ctx_twice]
      · by_cases m4 : mode = 4
        · simp [textT, m4, ctx_twice]
        · simp [textT, m1, m2, m3, m4]
theorem text_small (l : List Int) (hs : small l) (mode : Int) (ea : Bool) : small (textT l mode ea) := fun x hx => by
  obtain ⟨i, h1, rfl⟩ := List.mem_iff_getElem.1 hx
  have hi : i < l.length := by rw [← text_len l mode ea]; exact h1
  have e : (textT l mode ea)[i] = (textT l mode ea).getD i default := by simp [List.getD, h1]
  have hm : l.getD i default ∈ l := by simp [List.getD, hi]
  rw [e]
  rcases text_or l mode ea i hi with e | ⟨ar, e⟩
  · rw [e]; exact hs _ hm
  · rw [e]
    rcases one_wh (l.getD i default) ar ea with e | ⟨_, q⟩
    · rw [e]; exact hs _ hm
    · generalize oneT (l.getD i default) ar ea = z at *
      clear e
      revert q; unfold whT; (repeat' split) <;> simp <;> omega
theorem Text2 (p : PV) (hp : PR p) (fr : Bool) (l : List Int) (n : Nat) (hn : l.length = n) (hl : n ≤ 1000000) (hs : small l) (mode : Int) (ea : Bool) (h : Heap) {K : PV → Heap → Prop} (k : K (.list true 1 n ((textT l mode ea).map (.int .i64))) h) : CanP Try.prog 6 [p, .list fr 1 n (l.map (.int .i64)), .int .i64 mode, .bool ea] h K := by
  subst hn
  exact Text p hp fr l hl hs mode ea h k
theorem law_DigitOnly (l : List Int) (hl : l.length ≤ 9223372036854775806) (hs : small l) (mode : Int) (ea : Bool) (h : Heap) {K : PV → Heap → Prop} (k : K (.bool true) h) : CanP Try.prog 3 [.list false 1 l.length (l.map (.int .i64)), .int .i64 mode, .bool ea] h K := by
  refine e3 rfl ?_
  have hlen := text_len l mode ea
  try simp only [c3, r3_0, r3_1, r3_2, r3_3, r3_4, r3_5, r3_6, r3_7, r3_8, r3_9, r3_10, r3_11, r3_12, r3_13, r3_14, or_false, false_or, Bool.and_self, Bool.and_true, Bool.true_and, Bool.and_false, Bool.false_and, Bool.not_not, Int.cast_ofNat_Int, beq_self_eq_true, Heap.set_same, Heap.set_set, Heap.kill_kset, Int.toNat_natCast, Int.natCast_nonneg, Int.ofNat_lt, Int.ofNat_le, Int.natCast_inj, pmC, pmE, pmS, pmV, pmK, pmQ, pmL, pmX, pmF, pmO, pmA, pmR, pmW, pmB, Option.isSome_some, ft, olds_ints, olds_bools, ↓reduceIte, Nat.reduceEqDiff, reduceCtorEq, Nat.reduceAdd, Nat.reduceMul, Nat.reduceLeDiff, Nat.reduceLT, Int.reduceLE, Int.reduceLT, Int.reduceEq, Int.reduceToNat, Nat.zero_mul, Nat.zero_add, Nat.mul_one, ne_eq, not_false_eq_true, not_true_eq_false, true_and, and_true, decide_true, decide_false, Bool.not_true, Bool.not_false, Bool.false_eq_true, and_self, Nat.add_zero]
  by_cases h0 : (500 : Int) < l.length
  · try simp only [h0, or_false, false_or, Bool.and_self, Bool.and_true, Bool.true_and, Bool.and_false, Bool.false_and, Bool.not_not, Int.cast_ofNat_Int, beq_self_eq_true, Heap.set_same, Heap.set_set, Heap.kill_kset, Int.toNat_natCast, Int.natCast_nonneg, Int.ofNat_lt, Int.ofNat_le, Int.natCast_inj, pmC, pmE, pmS, pmV, pmK, pmQ, pmL, pmX, pmF, pmO, pmA, pmR, pmW, pmB, Option.isSome_some, ft, olds_ints, olds_bools, ↓reduceIte, Nat.reduceEqDiff, reduceCtorEq, Nat.reduceAdd, Nat.reduceMul, Nat.reduceLeDiff, Nat.reduceLT, Int.reduceLE, Int.reduceLT, Int.reduceEq, Int.reduceToNat, Nat.zero_mul, Nat.zero_add, Nat.mul_one, ne_eq, not_false_eq_true, not_true_eq_false, true_and, and_true, decide_true, decide_false, Bool.not_true, Bool.not_false, Bool.false_eq_true, and_self, Nat.add_zero]
    refine awake _ ?_
    try simp only [or_false, false_or, Bool.and_self, Bool.and_true, Bool.true_and, Bool.and_false, Bool.false_and, Bool.not_not, Int.cast_ofNat_Int, beq_self_eq_true, Heap.set_same, Heap.set_set, Heap.kill_kset, Int.toNat_natCast, Int.natCast_nonneg, Int.ofNat_lt, Int.ofNat_le, Int.natCast_inj, pmC, pmE, pmS, pmV, pmK, pmQ, pmL, pmX, pmF, pmO, pmA, pmR, pmW, pmB, Option.isSome_some, ft, olds_ints, olds_bools, ↓reduceIte, Nat.reduceEqDiff, reduceCtorEq, Nat.reduceAdd, Nat.reduceMul, Nat.reduceLeDiff, Nat.reduceLT, Int.reduceLE, Int.reduceLT, Int.reduceEq, Int.reduceToNat, Nat.zero_mul, Nat.zero_add, Nat.mul_one, ne_eq, not_false_eq_true, not_true_eq_false, true_and, and_true, decide_true, decide_false, Bool.not_true, Bool.not_false, Bool.false_eq_true, and_self, Nat.add_zero]
    exact finK_le (Heap.le_refl _) k
  · try simp only [h0, or_false, false_or, Bool.and_self, Bool.and_true, Bool.true_and, Bool.and_false, Bool.false_and, Bool.not_not, Int.cast_ofNat_Int, beq_self_eq_true, Heap.set_same, Heap.set_set, Heap.kill_kset, Int.toNat_natCast, Int.natCast_nonneg, Int.ofNat_lt, Int.ofNat_le, Int.natCast_inj, pmC, pmE, pmS, pmV, pmK, pmQ, pmL, pmX, pmF, pmO, pmA, pmR, pmW, pmB, Option.isSome_some, ft, olds_ints, olds_bools, ↓reduceIte, Nat.reduceEqDiff, reduceCtorEq, Nat.reduceAdd, Nat.reduceMul, Nat.reduceLeDiff, Nat.reduceLT, Int.reduceLE, Int.reduceLT, Int.reduceEq, Int.reduceToNat, Nat.zero_mul, Nat.zero_add, Nat.mul_one, ne_eq, not_false_eq_true, not_true_eq_false, true_and, and_true, decide_true, decide_false, Bool.not_true, Bool.not_false, Bool.false_eq_true, and_self, Nat.add_zero]
    refine New _ fun p hp => ?_
    try simp only [or_false, false_or, Bool.and_self, Bool.and_true, Bool.true_and, Bool.and_false, Bool.false_and, Bool.not_not, Int.cast_ofNat_Int, beq_self_eq_true, Heap.set_same, Heap.set_set, Heap.kill_kset, Int.toNat_natCast, Int.natCast_nonneg, Int.ofNat_lt, Int.ofNat_le, Int.natCast_inj, pmC, pmE, pmS, pmV, pmK, pmQ, pmL, pmX, pmF, pmO, pmA, pmR, pmW, pmB, Option.isSome_some, ft, olds_ints, olds_bools, ↓reduceIte, Nat.reduceEqDiff, reduceCtorEq, Nat.reduceAdd, Nat.reduceMul, Nat.reduceLeDiff, Nat.reduceLT, Int.reduceLE, Int.reduceLT, Int.reduceEq, Int.reduceToNat, Nat.zero_mul, Nat.zero_add, Nat.mul_one, ne_eq, not_false_eq_true, not_true_eq_false, true_and, and_true, decide_true, decide_false, Bool.not_true, Bool.not_false, Bool.false_eq_true, and_self, Nat.add_zero]
    refine Text _ hp _ _ (by omega) hs _ _ _ ?_
    have hat : ∀ i, i < l.length → ((textT l mode ea).map (PV.int .i64))[i]? = some (.int .i64 ((textT l mode ea).getD i default)) := fun i hi => getm (.int .i64) _ (by omega)
    try simp only [or_false, false_or, Bool.and_self, Bool.and_true, Bool.true_and, Bool.and_false, Bool.false_and, Bool.not_not, Int.cast_ofNat_Int, beq_self_eq_true, Heap.set_same, Heap.set_set, Heap.kill_kset, Int.toNat_natCast, Int.natCast_nonneg, Int.ofNat_lt, Int.ofNat_le, Int.natCast_inj, pmC, pmE, pmS, pmV, pmK, pmQ, pmL, pmX, pmF, pmO, pmA, pmR, pmW, pmB, Option.isSome_some, ft, olds_ints, olds_bools, ↓reduceIte, Nat.reduceEqDiff, reduceCtorEq, Nat.reduceAdd, Nat.reduceMul, Nat.reduceLeDiff, Nat.reduceLT, Int.reduceLE, Int.reduceLT, Int.reduceEq, Int.reduceToNat, Nat.zero_mul, Nat.zero_add, Nat.mul_one, ne_eq, not_false_eq_true, not_true_eq_false, true_and, and_true, decide_true, decide_false, Bool.not_true, Bool.not_false, Bool.false_eq_true, and_self, Nat.add_zero]
    refine pwp_up l.length (fun i σ h' => h' = h ∧ σ 0 = .list false 1 l.length (l.map (.int .i64)) ∧ (∃ fr, σ 28 = .list fr 1 l.length ((textT l mode ea).map (.int .i64))) ∧ σ 29 = .int .i64 l.length ∧ σ 30 = .int .i64 i) ?_ ?_
    · exact ⟨rfl, rfl, ⟨_, rfl⟩, rfl, rfl⟩
    · rintro i σ h' K' hi ⟨rfl, s0, ⟨fr, s28⟩, s29, s30⟩ next
      try simp only [s28, s29, s30, cdK_dec, or_false, false_or, Bool.and_self, Bool.and_true, Bool.true_and, Bool.and_false, Bool.false_and, Bool.not_not, Int.cast_ofNat_Int, beq_self_eq_true, Heap.set_same, Heap.set_set, Heap.kill_kset, Int.toNat_natCast, Int.natCast_nonneg, Int.ofNat_lt, Int.ofNat_le, Int.natCast_inj, pmC, pmE, pmS, pmV, pmK, pmQ, pmL, pmX, pmF, pmO, pmA, pmR, pmW, pmB, Option.isSome_some, ft, olds_ints, olds_bools, ↓reduceIte, Nat.reduceEqDiff, reduceCtorEq, Nat.reduceAdd, Nat.reduceMul, Nat.reduceLeDiff, Nat.reduceLT, Int.reduceLE, Int.reduceLT, Int.reduceEq, Int.reduceToNat, Nat.zero_mul, Nat.zero_add, Nat.mul_one, ne_eq, not_false_eq_true, not_true_eq_false, true_and, and_true, decide_true, decide_false, Bool.not_true, Bool.not_false, Bool.false_eq_true, and_self, Nat.add_zero]
      refine ⟨fun hlt => ?_, fun hge => ?_⟩
      · have hx := getm (.int .i64) l hlt
        have hy := hat i hlt
        have td := text_dig l mode ea i hlt
        have di := dig_in (l.getD i default)
        have hw : IntKind.i64.wrap ((i : Int) + 1) = (i : Int) + 1 := wrap_in (by omega) (by omega)
        generalize l.getD i default = x at *
        generalize (textT l mode ea).getD i default = y at *
        try simp only [s0, s28, s30, hx, hy, hlt, or_false, false_or, Bool.and_self, Bool.and_true, Bool.true_and, Bool.and_false, Bool.false_and, Bool.not_not, Int.cast_ofNat_Int, beq_self_eq_true, Heap.set_same, Heap.set_set, Heap.kill_kset, Int.toNat_natCast, Int.natCast_nonneg, Int.ofNat_lt, Int.ofNat_le, Int.natCast_inj, pmC, pmE, pmS, pmV, pmK, pmQ, pmL, pmX, pmF, pmO, pmA, pmR, pmW, pmB, Option.isSome_some, ft, olds_ints, olds_bools, ↓reduceIte, Nat.reduceEqDiff, reduceCtorEq, Nat.reduceAdd, Nat.reduceMul, Nat.reduceLeDiff, Nat.reduceLT, Int.reduceLE, Int.reduceLT, Int.reduceEq, Int.reduceToNat, Nat.zero_mul, Nat.zero_add, Nat.mul_one, ne_eq, not_false_eq_true, not_true_eq_false, true_and, and_true, decide_true, decide_false, Bool.not_true, Bool.not_false, Bool.false_eq_true, and_self, Nat.add_zero]
        refine DigitR _ _ ?_
        try simp only [or_false, false_or, Bool.and_self, Bool.and_true, Bool.true_and, Bool.and_false, Bool.false_and, Bool.not_not, Int.cast_ofNat_Int, beq_self_eq_true, Heap.set_same, Heap.set_set, Heap.kill_kset, Int.toNat_natCast, Int.natCast_nonneg, Int.ofNat_lt, Int.ofNat_le, Int.natCast_inj, pmC, pmE, pmS, pmV, pmK, pmQ, pmL, pmX, pmF, pmO, pmA, pmR, pmW, pmB, Option.isSome_some, ft, olds_ints, olds_bools, ↓reduceIte, Nat.reduceEqDiff, reduceCtorEq, Nat.reduceAdd, Nat.reduceMul, Nat.reduceLeDiff, Nat.reduceLT, Int.reduceLE, Int.reduceLT, Int.reduceEq, Int.reduceToNat, Nat.zero_mul, Nat.zero_add, Nat.mul_one, ne_eq, not_false_eq_true, not_true_eq_false, true_and, and_true, decide_true, decide_false, Bool.not_true, Bool.not_false, Bool.false_eq_true, and_self, Nat.add_zero]
        refine DigitR _ _ ?_
        generalize digT x = dx at *
        generalize digT y = dy at *
        obtain ⟨x1, x2⟩ := dx
        obtain ⟨y1, y2⟩ := dy
        by_cases k0 : x2 = 0
        · have exy := td.1 k0
          subst k0
          subst exy
          try simp only [s0, s30, hx, hlt, hw, or_false, false_or, Bool.and_self, Bool.and_true, Bool.true_and, Bool.and_false, Bool.false_and, Bool.not_not, Int.cast_ofNat_Int, beq_self_eq_true, Heap.set_same, Heap.set_set, Heap.kill_kset, Int.toNat_natCast, Int.natCast_nonneg, Int.ofNat_lt, Int.ofNat_le, Int.natCast_inj, pmC, pmE, pmS, pmV, pmK, pmQ, pmL, pmX, pmF, pmO, pmA, pmR, pmW, pmB, Option.isSome_some, ft, olds_ints, olds_bools, ↓reduceIte, Nat.reduceEqDiff, reduceCtorEq, Nat.reduceAdd, Nat.reduceMul, Nat.reduceLeDiff, Nat.reduceLT, Int.reduceLE, Int.reduceLT, Int.reduceEq, Int.reduceToNat, Nat.zero_mul, Nat.zero_add, Nat.mul_one, ne_eq, not_false_eq_true, not_true_eq_false, true_and, and_true, decide_true, decide_false, Bool.not_true, Bool.not_false, Bool.false_eq_true, and_self, Nat.add_zero]
          exact next hlt _ _ ⟨rfl, by simp [put, s0], ⟨fr, by simp [put, s28]⟩, by simp [put, s29], by simp [put]⟩
        · have kp : 0 < x2 := by have : 0 ≤ x2 := di; omega
          obtain ⟨t1, t2⟩ := td.2 kp
          have t1 : ¬ y2 = 0 := t1
          have t2 : x1 = y1 := t2
          subst t2
          try simp only [k0, kp, t1, s30, hw, or_false, false_or, Bool.and_self, Bool.and_true, Bool.true_and, Bool.and_false, Bool.false_and, Bool.not_not, Int.cast_ofNat_Int, beq_self_eq_true, Heap.set_same, Heap.set_set, Heap.kill_kset, Int.toNat_natCast, Int.natCast_nonneg, Int.ofNat_lt, Int.ofNat_le, Int.natCast_inj, pmC, pmE, pmS, pmV, pmK, pmQ, pmL, pmX, pmF, pmO, pmA, pmR, pmW, pmB, Option.isSome_some, ft, olds_ints, olds_bools, ↓reduceIte, Nat.reduceEqDiff, reduceCtorEq, Nat.reduceAdd, Nat.reduceMul, Nat.reduceLeDiff, Nat.reduceLT, Int.reduceLE, Int.reduceLT, Int.reduceEq, Int.reduceToNat, Nat.zero_mul, Nat.zero_add, Nat.mul_one, ne_eq, not_false_eq_true, not_true_eq_false, true_and, and_true, decide_true, decide_false, Bool.not_true, Bool.not_false, Bool.false_eq_true, and_self, Nat.add_zero]
          exact next hlt _ _ ⟨rfl, by simp [put, s0], ⟨fr, by simp [put, s28]⟩, by simp [put, s29], by simp [put]⟩
      · try simp only [or_false, false_or, Bool.and_self, Bool.and_true, Bool.true_and, Bool.and_false, Bool.false_and, Bool.not_not, Int.cast_ofNat_Int, beq_self_eq_true, Heap.set_same, Heap.set_set, Heap.kill_kset, Int.toNat_natCast, Int.natCast_nonneg, Int.ofNat_lt, Int.ofNat_le, Int.natCast_inj, pmC, pmE, pmS, pmV, pmK, pmQ, pmL, pmX, pmF, pmO, pmA, pmR, pmW, pmB, Option.isSome_some, ft, olds_ints, olds_bools, ↓reduceIte, Nat.reduceEqDiff, reduceCtorEq, Nat.reduceAdd, Nat.reduceMul, Nat.reduceLeDiff, Nat.reduceLT, Int.reduceLE, Int.reduceLT, Int.reduceEq, Int.reduceToNat, Nat.zero_mul, Nat.zero_add, Nat.mul_one, ne_eq, not_false_eq_true, not_true_eq_false, true_and, and_true, decide_true, decide_false, Bool.not_true, Bool.not_false, Bool.false_eq_true, and_self, Nat.add_zero]
        refine awake _ ?_
        try simp only [or_false, false_or, Bool.and_self, Bool.and_true, Bool.true_and, Bool.and_false, Bool.false_and, Bool.not_not, Int.cast_ofNat_Int, beq_self_eq_true, Heap.set_same, Heap.set_set, Heap.kill_kset, Int.toNat_natCast, Int.natCast_nonneg, Int.ofNat_lt, Int.ofNat_le, Int.natCast_inj, pmC, pmE, pmS, pmV, pmK, pmQ, pmL, pmX, pmF, pmO, pmA, pmR, pmW, pmB, Option.isSome_some, ft, olds_ints, olds_bools, ↓reduceIte, Nat.reduceEqDiff, reduceCtorEq, Nat.reduceAdd, Nat.reduceMul, Nat.reduceLeDiff, Nat.reduceLT, Int.reduceLE, Int.reduceLT, Int.reduceEq, Int.reduceToNat, Nat.zero_mul, Nat.zero_add, Nat.mul_one, ne_eq, not_false_eq_true, not_true_eq_false, true_and, and_true, decide_true, decide_false, Bool.not_true, Bool.not_false, Bool.false_eq_true, and_self, Nat.add_zero]
        exact finK_le (Heap.le_refl _) k
theorem law_DigitTwice (l : List Int) (hl : l.length ≤ 9223372036854775806) (hs : small l) (mode : Int) (ea : Bool) (h : Heap) {K : PV → Heap → Prop} (k : K (.bool true) h) : CanP Try.prog 4 [.list false 1 l.length (l.map (.int .i64)), .int .i64 mode, .bool ea] h K := by
  refine e4 rfl ?_
  have hlen := text_len l mode ea
  try simp only [c4, r4_0, r4_1, r4_2, r4_3, r4_4, r4_5, or_false, false_or, Bool.and_self, Bool.and_true, Bool.true_and, Bool.and_false, Bool.false_and, Bool.not_not, Int.cast_ofNat_Int, beq_self_eq_true, Heap.set_same, Heap.set_set, Heap.kill_kset, Int.toNat_natCast, Int.natCast_nonneg, Int.ofNat_lt, Int.ofNat_le, Int.natCast_inj, pmC, pmE, pmS, pmV, pmK, pmQ, pmL, pmX, pmF, pmO, pmA, pmR, pmW, pmB, Option.isSome_some, ft, olds_ints, olds_bools, ↓reduceIte, Nat.reduceEqDiff, reduceCtorEq, Nat.reduceAdd, Nat.reduceMul, Nat.reduceLeDiff, Nat.reduceLT, Int.reduceLE, Int.reduceLT, Int.reduceEq, Int.reduceToNat, Nat.zero_mul, Nat.zero_add, Nat.mul_one, ne_eq, not_false_eq_true, not_true_eq_false, true_and, and_true, decide_true, decide_false, Bool.not_true, Bool.not_false, Bool.false_eq_true, and_self, Nat.add_zero]
  by_cases h0 : (500 : Int) < l.length
  · try simp only [h0, or_false, false_or, Bool.and_self, Bool.and_true, Bool.true_and, Bool.and_false, Bool.false_and, Bool.not_not, Int.cast_ofNat_Int, beq_self_eq_true, Heap.set_same, Heap.set_set, Heap.kill_kset, Int.toNat_natCast, Int.natCast_nonneg, Int.ofNat_lt, Int.ofNat_le, Int.natCast_inj, pmC, pmE, pmS, pmV, pmK, pmQ, pmL, pmX, pmF, pmO, pmA, pmR, pmW, pmB, Option.isSome_some, ft, olds_ints, olds_bools, ↓reduceIte, Nat.reduceEqDiff, reduceCtorEq, Nat.reduceAdd, Nat.reduceMul, Nat.reduceLeDiff, Nat.reduceLT, Int.reduceLE, Int.reduceLT, Int.reduceEq, Int.reduceToNat, Nat.zero_mul, Nat.zero_add, Nat.mul_one, ne_eq, not_false_eq_true, not_true_eq_false, true_and, and_true, decide_true, decide_false, Bool.not_true, Bool.not_false, Bool.false_eq_true, and_self, Nat.add_zero]
    refine awake _ ?_
    try simp only [or_false, false_or, Bool.and_self, Bool.and_true, Bool.true_and, Bool.and_false, Bool.false_and, Bool.not_not, Int.cast_ofNat_Int, beq_self_eq_true, Heap.set_same, Heap.set_set, Heap.kill_kset, Int.toNat_natCast, Int.natCast_nonneg, Int.ofNat_lt, Int.ofNat_le, Int.natCast_inj, pmC, pmE, pmS, pmV, pmK, pmQ, pmL, pmX, pmF, pmO, pmA, pmR, pmW, pmB, Option.isSome_some, ft, olds_ints, olds_bools, ↓reduceIte, Nat.reduceEqDiff, reduceCtorEq, Nat.reduceAdd, Nat.reduceMul, Nat.reduceLeDiff, Nat.reduceLT, Int.reduceLE, Int.reduceLT, Int.reduceEq, Int.reduceToNat, Nat.zero_mul, Nat.zero_add, Nat.mul_one, ne_eq, not_false_eq_true, not_true_eq_false, true_and, and_true, decide_true, decide_false, Bool.not_true, Bool.not_false, Bool.false_eq_true, and_self, Nat.add_zero]
    exact finK_le (Heap.le_refl _) k
  · try simp only [h0, or_false, false_or, Bool.and_self, Bool.and_true, Bool.true_and, Bool.and_false, Bool.false_and, Bool.not_not, Int.cast_ofNat_Int, beq_self_eq_true, Heap.set_same, Heap.set_set, Heap.kill_kset, Int.toNat_natCast, Int.natCast_nonneg, Int.ofNat_lt, Int.ofNat_le, Int.natCast_inj, pmC, pmE, pmS, pmV, pmK, pmQ, pmL, pmX, pmF, pmO, pmA, pmR, pmW, pmB, Option.isSome_some, ft, olds_ints, olds_bools, ↓reduceIte, Nat.reduceEqDiff, reduceCtorEq, Nat.reduceAdd, Nat.reduceMul, Nat.reduceLeDiff, Nat.reduceLT, Int.reduceLE, Int.reduceLT, Int.reduceEq, Int.reduceToNat, Nat.zero_mul, Nat.zero_add, Nat.mul_one, ne_eq, not_false_eq_true, not_true_eq_false, true_and, and_true, decide_true, decide_false, Bool.not_true, Bool.not_false, Bool.false_eq_true, and_self, Nat.add_zero]
    refine New _ fun p hp => ?_
    try simp only [or_false, false_or, Bool.and_self, Bool.and_true, Bool.true_and, Bool.and_false, Bool.false_and, Bool.not_not, Int.cast_ofNat_Int, beq_self_eq_true, Heap.set_same, Heap.set_set, Heap.kill_kset, Int.toNat_natCast, Int.natCast_nonneg, Int.ofNat_lt, Int.ofNat_le, Int.natCast_inj, pmC, pmE, pmS, pmV, pmK, pmQ, pmL, pmX, pmF, pmO, pmA, pmR, pmW, pmB, Option.isSome_some, ft, olds_ints, olds_bools, ↓reduceIte, Nat.reduceEqDiff, reduceCtorEq, Nat.reduceAdd, Nat.reduceMul, Nat.reduceLeDiff, Nat.reduceLT, Int.reduceLE, Int.reduceLT, Int.reduceEq, Int.reduceToNat, Nat.zero_mul, Nat.zero_add, Nat.mul_one, ne_eq, not_false_eq_true, not_true_eq_false, true_and, and_true, decide_true, decide_false, Bool.not_true, Bool.not_false, Bool.false_eq_true, and_self, Nat.add_zero]
    refine Text _ hp _ _ (by omega) hs _ _ _ ?_
    try simp only [or_false, false_or, Bool.and_self, Bool.and_true, Bool.true_and, Bool.and_false, Bool.false_and, Bool.not_not, Int.cast_ofNat_Int, beq_self_eq_true, Heap.set_same, Heap.set_set, Heap.kill_kset, Int.toNat_natCast, Int.natCast_nonneg, Int.ofNat_lt, Int.ofNat_le, Int.natCast_inj, pmC, pmE, pmS, pmV, pmK, pmQ, pmL, pmX, pmF, pmO, pmA, pmR, pmW, pmB, Option.isSome_some, ft, olds_ints, olds_bools, ↓reduceIte, Nat.reduceEqDiff, reduceCtorEq, Nat.reduceAdd, Nat.reduceMul, Nat.reduceLeDiff, Nat.reduceLT, Int.reduceLE, Int.reduceLT, Int.reduceEq, Int.reduceToNat, Nat.zero_mul, Nat.zero_add, Nat.mul_one, ne_eq, not_false_eq_true, not_true_eq_false, true_and, and_true, decide_true, decide_false, Bool.not_true, Bool.not_false, Bool.false_eq_true, and_self, Nat.add_zero]
    refine Text2 _ hp _ (textT l mode ea) _ hlen (by omega) (text_small l hs mode ea) _ _ _ ?_
    rw [text_twice]
    try simp only [or_false, false_or, Bool.and_self, Bool.and_true, Bool.true_and, Bool.and_false, Bool.false_and, Bool.not_not, Int.cast_ofNat_Int, beq_self_eq_true, Heap.set_same, Heap.set_set, Heap.kill_kset, Int.toNat_natCast, Int.natCast_nonneg, Int.ofNat_lt, Int.ofNat_le, Int.natCast_inj, pmC, pmE, pmS, pmV, pmK, pmQ, pmL, pmX, pmF, pmO, pmA, pmR, pmW, pmB, Option.isSome_some, ft, olds_ints, olds_bools, ↓reduceIte, Nat.reduceEqDiff, reduceCtorEq, Nat.reduceAdd, Nat.reduceMul, Nat.reduceLeDiff, Nat.reduceLT, Int.reduceLE, Int.reduceLT, Int.reduceEq, Int.reduceToNat, Nat.zero_mul, Nat.zero_add, Nat.mul_one, ne_eq, not_false_eq_true, not_true_eq_false, true_and, and_true, decide_true, decide_false, Bool.not_true, Bool.not_false, Bool.false_eq_true, and_self, Nat.add_zero]
    refine EqualI2 _ _ (textT l mode ea) (textT l mode ea) _ _ hlen hlen (by omega) _ ?_
    try simp only [or_false, false_or, Bool.and_self, Bool.and_true, Bool.true_and, Bool.and_false, Bool.false_and, Bool.not_not, Int.cast_ofNat_Int, beq_self_eq_true, Heap.set_same, Heap.set_set, Heap.kill_kset, Int.toNat_natCast, Int.natCast_nonneg, Int.ofNat_lt, Int.ofNat_le, Int.natCast_inj, pmC, pmE, pmS, pmV, pmK, pmQ, pmL, pmX, pmF, pmO, pmA, pmR, pmW, pmB, Option.isSome_some, ft, olds_ints, olds_bools, ↓reduceIte, Nat.reduceEqDiff, reduceCtorEq, Nat.reduceAdd, Nat.reduceMul, Nat.reduceLeDiff, Nat.reduceLT, Int.reduceLE, Int.reduceLT, Int.reduceEq, Int.reduceToNat, Nat.zero_mul, Nat.zero_add, Nat.mul_one, ne_eq, not_false_eq_true, not_true_eq_false, true_and, and_true, decide_true, decide_false, Bool.not_true, Bool.not_false, Bool.false_eq_true, and_self, Nat.add_zero]
    refine awake _ ?_
    try simp only [or_false, false_or, Bool.and_self, Bool.and_true, Bool.true_and, Bool.and_false, Bool.false_and, Bool.not_not, Int.cast_ofNat_Int, beq_self_eq_true, Heap.set_same, Heap.set_set, Heap.kill_kset, Int.toNat_natCast, Int.natCast_nonneg, Int.ofNat_lt, Int.ofNat_le, Int.natCast_inj, pmC, pmE, pmS, pmV, pmK, pmQ, pmL, pmX, pmF, pmO, pmA, pmR, pmW, pmB, Option.isSome_some, ft, olds_ints, olds_bools, ↓reduceIte, Nat.reduceEqDiff, reduceCtorEq, Nat.reduceAdd, Nat.reduceMul, Nat.reduceLeDiff, Nat.reduceLT, Int.reduceLE, Int.reduceLT, Int.reduceEq, Int.reduceToNat, Nat.zero_mul, Nat.zero_add, Nat.mul_one, ne_eq, not_false_eq_true, not_true_eq_false, true_and, and_true, decide_true, decide_false, Bool.not_true, Bool.not_false, Bool.false_eq_true, and_self, Nat.add_zero]
    exact finK_le (Heap.le_refl _) k
theorem fits_int (r : List PV) (h : Fits [some .i64] r) : ∃ x : Int, r = [.int .i64 x] ∧ (x ≤ 9223372036854775807 ∧ -9223372036854775808 ≤ x) := by
  obtain ⟨a, r, rfl, ha, rfl⟩ := h
  have := wf64 ha
  exact ⟨a, rfl, by omega⟩
theorem flat_ints (l : List Int) : (List.map (fun x => [PV.int IntKind.i64 x]) l).flatten = l.map (.int .i64) := by
  induction l with
  | nil => rfl
  | cons x l ih => simp [ih]
def kinds_DigitOnly : List AKind := [.row [some .i64] 8, .one (some .i64), .one none]
theorem all_DigitOnly (pvs : List PV) (h : IsArgs kinds_DigitOnly pvs) : CanP Try.prog 3 pvs Heap.nil (fun v _ => v = .bool true) := by
  obtain ⟨p, r2, rfl, ⟨rows, hr, hz, hl, rfl⟩, p2, r3, rfl, ⟨m, rfl, hm⟩, p3, r4, rfl, ⟨b, rfl⟩, rfl⟩ := h
  obtain ⟨l, rfl, hy⟩ := rows_of (fun x => [.int .i64 x]) _ fits_int hr
  rw [flat_ints]
  simp only [List.length_map] at hl hz ⊢
  exact law_DigitOnly l (by omega) (fun x hx => (hy x hx).1) m b _ rfl
def kinds_DigitTwice : List AKind := [.row [some .i64] 8, .one (some .i64), .one none]
theorem all_DigitTwice (pvs : List PV) (h : IsArgs kinds_DigitTwice pvs) : CanP Try.prog 4 pvs Heap.nil (fun v _ => v = .bool true) := by
  obtain ⟨p, r2, rfl, ⟨rows, hr, hz, hl, rfl⟩, p2, r3, rfl, ⟨m, rfl, hm⟩, p3, r4, rfl, ⟨b, rfl⟩, rfl⟩ := h
  obtain ⟨l, rfl, hy⟩ := rows_of (fun x => [.int .i64 x]) _ fits_int hr
  rw [flat_ints]
  simp only [List.length_map] at hl hz ⊢
  exact law_DigitTwice l (by omega) (fun x hx => (hy x hx).1) m b _ rfl
end Go.Proofs.Ytbaammcbkjfmhaa
