/-
  What is seen of a code the other way round: the package pairs (Mirror), and the document's answer.
  Conditions: none but those that each sentence tells.
-/
import Derived.Test.YtjabiegaeflhjaaC
import Derived.Test.YtjabiegaeflhjaaPmT
import Derived.Test.YtjabiegaeflhjaaSpan1
namespace Go.Proofs.Ytjabiegaeflhjaa
open Go.Pm
set_option maxRecDepth 100000
set_option linter.unusedSimpArgs false
set_option linter.unusedVariables false

def mrs : List (Int × Int) := [
  (40, 41), (60, 62), (91, 93), (123, 125), (171, 187), (3898, 3899),
  (8249, 8250), (8261, 8262), (8317, 8318), (8333, 8334), (8712, 8715), (8804, 8805),
  (8810, 8811), (9001, 9002), (10088, 10089), (10090, 10091), (10092, 10093), (10094, 10095),
  (10096, 10097), (10098, 10099), (10100, 10101), (10214, 10215), (10216, 10217), (10218, 10219),
  (10220, 10221), (10222, 10223), (10627, 10628), (10629, 10630), (10631, 10632), (10633, 10634),
  (10635, 10636), (10641, 10642), (12296, 12297), (12298, 12299), (12300, 12301), (12302, 12303),
  (12304, 12305), (12308, 12309), (12310, 12311), (12312, 12313), (12314, 12315), (65113, 65114),
  (65115, 65116), (65117, 65118), (65124, 65125), (65288, 65289), (65308, 65310), (65339, 65341),
  (65371, 65373), (65375, 65376), (65378, 65379)]
theorem mrs_len : mrs.length = 51 := rfl
theorem Mirrors (h : Heap) {K : PV → Heap → Prop} (k : K (.list true 2 mrs.length (mrs.flatMap sp)) h) : CanP Try.prog 42 [] h K := by
  refine e42 rfl ?_
  try simp (maxSteps := 10000000) only [c42, r42_0, r42_1, or_false, false_or, Bool.and_self, Bool.and_true, Bool.true_and, Bool.and_false, Bool.false_and, Bool.not_not, Int.cast_ofNat_Int, beq_self_eq_true, Heap.set_same, Heap.set_set, Heap.kill_kset, Int.toNat_natCast, Int.natCast_nonneg, Int.ofNat_lt, Int.ofNat_le, Int.natCast_inj, pmC, pmE, pmS, pmV, pmK, pmQ, pmL, pmX, pmF, pmO, pmA, pmR, pmW, pmB, Option.isSome_some, ft, olds_ints, olds_bools, ↓reduceIte, Nat.reduceEqDiff, reduceCtorEq, Nat.reduceAdd, Nat.reduceMul, Nat.reduceLeDiff, Nat.reduceLT, Int.reduceLE, Int.reduceLT, Int.reduceEq, Int.reduceToNat, Nat.zero_mul, Nat.zero_add, Nat.mul_one, ne_eq, not_false_eq_true, not_true_eq_false, true_and, and_true, decide_true, decide_false, Bool.not_true, Bool.not_false, Bool.false_eq_true, and_self, Nat.add_zero]
  exact finK_le (Heap.le_refl _) k
/-- The library's search: the first place of which it is told so. -/
theorem Search (g : FuncId) (caps c1 : List PV) (e1 : olds caps = c1) (n : Nat) (hn : n ≤ 1000000) (p : Nat → Bool) (hp : ∀ i j, i ≤ j → j < n → p i = true → p j = true) (h : Heap)
    (T : ∀ i, i < n → ∀ (h1 : Heap) (K : PV → Heap → Prop), K (.bool (p i)) h1 → CanP Try.prog g ([.int .i64 (i : Nat)] ++ c1) h1 K)
    {K : PV → Heap → Prop} (k : ∀ r : Nat, r ≤ n → (∀ j, j < r → p j = false) → (∀ j, r ≤ j → j < n → p j = true) → K (.int .i64 r) h) : CanP Try.prog 53 [.int .i64 n, .fn g [] caps] h K := by
  refine e53 rfl ?_
  try simp only [c53, r53_0, r53_1, r53_2, r53_3, r53_4, r53_5, r53_6, r53_7, e1, or_false, false_or, Bool.and_self, Bool.and_true, Bool.true_and, Bool.and_false, Bool.false_and, Bool.not_not, Int.cast_ofNat_Int, beq_self_eq_true, Heap.set_same, Heap.set_set, Heap.kill_kset, Int.toNat_natCast, Int.natCast_nonneg, Int.ofNat_lt, Int.ofNat_le, Int.natCast_inj, pmC, pmE, pmS, pmV, pmK, pmQ, pmL, pmX, pmF, pmO, pmA, pmR, pmW, pmB, Option.isSome_some, ft, olds_ints, olds_bools, ↓reduceIte, Nat.reduceEqDiff, reduceCtorEq, Nat.reduceAdd, Nat.reduceMul, Nat.reduceLeDiff, Nat.reduceLT, Int.reduceLE, Int.reduceLT, Int.reduceEq, Int.reduceToNat, Nat.zero_mul, Nat.zero_add, Nat.mul_one, ne_eq, not_false_eq_true, not_true_eq_false, true_and, and_true, decide_true, decide_false, Bool.not_true, Bool.not_false, Bool.false_eq_true, and_self, Nat.add_zero]
  refine pwp_fall (fun m σ h' => ∃ a b : Nat, b - a ≤ m ∧ a ≤ b ∧ b ≤ n ∧ h' = h ∧ σ 1 = .fn g [] c1 ∧ σ 5 = .int .i64 a ∧ σ 6 = .int .i64 b ∧ (∀ j, j < a → p j = false) ∧ ∀ j, b ≤ j → j < n → p j = true) n ⟨0, n, by omega, by omega, by omega, rfl, rfl, rfl, rfl, fun j hj => by omega, fun j h1 h2 => by omega⟩ ?_
  rintro m σ h' K' ⟨a, b, hm, hab, hb, rfl, s1, s5, s6, h1, h2⟩ next
  have w3 : IntKind.i64.wrap ((a : Int) + b) = ((a + b : Nat) : Int) := by rw [wrap_in (by omega) (by omega)]; omega
  have w4 := halfU (a := a) (c := b) (by omega)
  obtain ⟨t, ht⟩ : ∃ t, t = (a + b) / 2 := ⟨_, rfl⟩
  rw [← ht] at w4
  rcases Nat.lt_or_ge a b with hlt | hge
  · have w5 : IntKind.i64.wrap ((t : Int) + 1) = (t : Int) + 1 := wrap_in (by omega) (by omega)
    try simp only [s1, s5, s6, hlt, w3, w4, or_false, false_or, Bool.and_self, Bool.and_true, Bool.true_and, Bool.and_false, Bool.false_and, Bool.not_not, Int.cast_ofNat_Int, beq_self_eq_true, Heap.set_same, Heap.set_set, Heap.kill_kset, Int.toNat_natCast, Int.natCast_nonneg, Int.ofNat_lt, Int.ofNat_le, Int.natCast_inj, pmC, pmE, pmS, pmV, pmK, pmQ, pmL, pmX, pmF, pmO, pmA, pmR, pmW, pmB, Option.isSome_some, ft, olds_ints, olds_bools, ↓reduceIte, Nat.reduceEqDiff, reduceCtorEq, Nat.reduceAdd, Nat.reduceMul, Nat.reduceLeDiff, Nat.reduceLT, Int.reduceLE, Int.reduceLT, Int.reduceEq, Int.reduceToNat, Nat.zero_mul, Nat.zero_add, Nat.mul_one, ne_eq, not_false_eq_true, not_true_eq_false, true_and, and_true, decide_true, decide_false, Bool.not_true, Bool.not_false, Bool.false_eq_true, and_self, Nat.add_zero]
    refine T t (by omega) _ _ ?_
    by_cases q : p t = true
    · try simp only [q, or_false, false_or, Bool.and_self, Bool.and_true, Bool.true_and, Bool.and_false, Bool.false_and, Bool.not_not, Int.cast_ofNat_Int, beq_self_eq_true, Heap.set_same, Heap.set_set, Heap.kill_kset, Int.toNat_natCast, Int.natCast_nonneg, Int.ofNat_lt, Int.ofNat_le, Int.natCast_inj, pmC, pmE, pmS, pmV, pmK, pmQ, pmL, pmX, pmF, pmO, pmA, pmR, pmW, pmB, Option.isSome_some, ft, olds_ints, olds_bools, ↓reduceIte, Nat.reduceEqDiff, reduceCtorEq, Nat.reduceAdd, Nat.reduceMul, Nat.reduceLeDiff, Nat.reduceLT, Int.reduceLE, Int.reduceLT, Int.reduceEq, Int.reduceToNat, Nat.zero_mul, Nat.zero_add, Nat.mul_one, ne_eq, not_false_eq_true, not_true_eq_false, true_and, and_true, decide_true, decide_false, Bool.not_true, Bool.not_false, Bool.false_eq_true, and_self, Nat.add_zero]
      exact next (t - a) _ _ (by omega) ⟨a, t, by omega, by omega, by omega, rfl, by simp [put, s1], by simp [put, s5], by simp [put], h1, fun j hj hjn => hp t j hj hjn q⟩
    · rw [Bool.not_eq_true] at q
      try simp only [q, w5, or_false, false_or, Bool.and_self, Bool.and_true, Bool.true_and, Bool.and_false, Bool.false_and, Bool.not_not, Int.cast_ofNat_Int, beq_self_eq_true, Heap.set_same, Heap.set_set, Heap.kill_kset, Int.toNat_natCast, Int.natCast_nonneg, Int.ofNat_lt, Int.ofNat_le, Int.natCast_inj, pmC, pmE, pmS, pmV, pmK, pmQ, pmL, pmX, pmF, pmO, pmA, pmR, pmW, pmB, Option.isSome_some, ft, olds_ints, olds_bools, ↓reduceIte, Nat.reduceEqDiff, reduceCtorEq, Nat.reduceAdd, Nat.reduceMul, Nat.reduceLeDiff, Nat.reduceLT, Int.reduceLE, Int.reduceLT, Int.reduceEq, Int.reduceToNat, Nat.zero_mul, Nat.zero_add, Nat.mul_one, ne_eq, not_false_eq_true, not_true_eq_false, true_and, and_true, decide_true, decide_false, Bool.not_true, Bool.not_false, Bool.false_eq_true, and_self, Nat.add_zero]
      refine next (b - (t + 1)) _ _ (by omega) ⟨t + 1, b, by omega, by omega, hb, rfl, by simp [put, s1], by simp [put], by simp [put, s6], fun j hj => ?_, h2⟩
      cases e : p j with
      | false => rfl
      | true => rw [hp j t (by omega) (by omega) e] at q; cases q
  · have e : a = b := by omega
    subst e
    have hnl := Nat.lt_irrefl a
    try simp only [s5, s6, hnl, or_false, false_or, Bool.and_self, Bool.and_true, Bool.true_and, Bool.and_false, Bool.false_and, Bool.not_not, Int.cast_ofNat_Int, beq_self_eq_true, Heap.set_same, Heap.set_set, Heap.kill_kset, Int.toNat_natCast, Int.natCast_nonneg, Int.ofNat_lt, Int.ofNat_le, Int.natCast_inj, pmC, pmE, pmS, pmV, pmK, pmQ, pmL, pmX, pmF, pmO, pmA, pmR, pmW, pmB, Option.isSome_some, ft, olds_ints, olds_bools, ↓reduceIte, Nat.reduceEqDiff, reduceCtorEq, Nat.reduceAdd, Nat.reduceMul, Nat.reduceLeDiff, Nat.reduceLT, Int.reduceLE, Int.reduceLT, Int.reduceEq, Int.reduceToNat, Nat.zero_mul, Nat.zero_add, Nat.mul_one, ne_eq, not_false_eq_true, not_true_eq_false, true_and, and_true, decide_true, decide_false, Bool.not_true, Bool.not_false, Bool.false_eq_true, and_self, Nat.add_zero]
    exact finK_le (Heap.le_refl _) (k a hb h1 h2)
end Go.Proofs.Ytjabiegaeflhjaa
