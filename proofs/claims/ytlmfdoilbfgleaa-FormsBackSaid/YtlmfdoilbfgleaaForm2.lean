/-
  A letter's form: the package forms and the document's answer.
  Conditions: none but those that each sentence tells.
-/
import Derived.Test.YtlmfdoilbfgleaaForm1
namespace Go.Proofs.Ytlmfdoilbfgleaa
open Go.Pm
set_option maxRecDepth 100000
set_option linter.unusedSimpArgs false
set_option linter.unusedVariables false

theorem rises_all : (((List.range 75).all fun i => decide ((lets.getD i default).1 < (lets.getD (i + 1) default).1)) && ((List.range 76).all fun i => decide (0 < (lets.getD i default).1 ∧ (lets.getD i default).1 < 65536))) = true := by kernel_rfl
theorem lets_len : lets.length = 76 := rfl
theorem rises {i j : Nat} (hij : i < j) (hj : j < lets.length) : (lets.getD i default).1 < (lets.getD j default).1 := by
  have h := List.all_eq_true.1 (Bool.and_eq_true_iff.1 rises_all).1
  rw [lets_len] at hj
  induction j with
  | zero => omega
  | succ j ih =>
    have := h j (by simp; omega)
    simp only [decide_eq_true_eq] at this
    rcases Nat.lt_or_ge i j with q | q
    · have := ih q (by omega); omega
    · have : i = j := by omega
      subst this; assumption
theorem keys {i : Nat} (h : i < lets.length) : 0 < (lets.getD i default).1 ∧ (lets.getD i default).1 < 65536 := by
  rw [lets_len] at h
  have := List.all_eq_true.1 (Bool.and_eq_true_iff.1 rises_all).2 i (by simpa using h)
  simpa using this
theorem cmp (p : L5) (b : Int) (h0 : 0 < p.1 ∧ p.1 < 65536) (hb : b ≤ 9223372036854775807) (h : Heap) {K : PV → Heap → Prop} (k : K (.int .i64 (p.1 - max b 0)) h) : CanP Try.prog 33 [.agg (l5 p), .int .i64 b] h K := by
  refine e33 rfl ?_
  try simp only [c33, r33_0, r33_1, l5, fl, or_false, false_or, Bool.and_self, Bool.and_true, Bool.true_and, Bool.and_false, Bool.false_and, Bool.not_not, Int.cast_ofNat_Int, beq_self_eq_true, Heap.set_same, Heap.set_set, Heap.kill_kset, Int.toNat_natCast, Int.natCast_nonneg, Int.ofNat_lt, Int.ofNat_le, Int.natCast_inj, pmC, pmE, pmS, pmV, pmK, pmQ, pmL, pmX, pmF, pmO, pmA, pmR, pmW, pmB, Option.isSome_some, ft, olds_ints, olds_bools, ↓reduceIte, Nat.reduceEqDiff, reduceCtorEq, Nat.reduceAdd, Nat.reduceMul, Nat.reduceLeDiff, Nat.reduceLT, Int.reduceLE, Int.reduceLT, Int.reduceEq, Int.reduceToNat, Nat.zero_mul, Nat.zero_add, Nat.mul_one, ne_eq, not_false_eq_true, not_true_eq_false, true_and, and_true, decide_true, decide_false, Bool.not_true, Bool.not_false, Bool.false_eq_true, and_self, Nat.add_zero]
  have e : (if b < 0 then 0 else b) = max b 0 := by split <;> omega
  rw [e, wrap_in (by omega) (by omega)]
  exact finK_le (Heap.le_refl _) k
def key (gs : List L5) (i : Nat) : Int := (gs.getD i default).1
theorem BinF (fr : Bool) (b : Int) (hb : b ≤ 9223372036854775807) (h : Heap) {K : PV → Heap → Prop}
    (k : ∀ p : Nat, p ≤ lets.length → (∀ j, j < p → key lets j < max b 0) → (∀ j, p ≤ j → j < lets.length → max b 0 ≤ key lets j) → K (.tup [.int .i64 p, .bool (decide (p < lets.length ∧ key lets p = max b 0))]) h) :
    CanP Try.prog 32 [.list fr 5 lets.length (lets.flatMap l5), .int .i64 b, .fn 33 [] []] h K := by
  refine e32 rfl ?_
  have hl : lets.length ≤ 100 := by decide
  have hs := @rises
  have hk := @keys
  generalize lets = l at *
  try simp only [c32, r32_0, r32_1, r32_2, r32_3, r32_4, r32_5, r32_6, r32_7, r32_8, old_l5, or_false, false_or, Bool.and_self, Bool.and_true, Bool.true_and, Bool.and_false, Bool.false_and, Bool.not_not, Int.cast_ofNat_Int, beq_self_eq_true, Heap.set_same, Heap.set_set, Heap.kill_kset, Int.toNat_natCast, Int.natCast_nonneg, Int.ofNat_lt, Int.ofNat_le, Int.natCast_inj, pmC, pmE, pmS, pmV, pmK, pmQ, pmL, pmX, pmF, pmO, pmA, pmR, pmW, pmB, Option.isSome_some, ft, olds_ints, olds_bools, ↓reduceIte, Nat.reduceEqDiff, reduceCtorEq, Nat.reduceAdd, Nat.reduceMul, Nat.reduceLeDiff, Nat.reduceLT, Int.reduceLE, Int.reduceLT, Int.reduceEq, Int.reduceToNat, Nat.zero_mul, Nat.zero_add, Nat.mul_one, ne_eq, not_false_eq_true, not_true_eq_false, true_and, and_true, decide_true, decide_false, Bool.not_true, Bool.not_false, Bool.false_eq_true, and_self, Nat.add_zero]
  refine pwp_fall (fun m σ h' => ∃ a c : Nat, c - a ≤ m ∧ a ≤ c ∧ c ≤ l.length ∧ h' = h ∧ σ 0 = .list false 5 l.length (l.flatMap l5) ∧ σ 1 = .int .i64 b ∧ σ 2 = .fn 33 [] [] ∧ σ 8 = .int .i64 l.length ∧ σ 9 = .int .i64 a ∧ σ 10 = .int .i64 c ∧ (∀ j, j < a → key l j < max b 0) ∧ ∀ j, c ≤ j → j < l.length → max b 0 ≤ key l j) l.length ?_ ?_
  · exact ⟨0, l.length, by omega, by omega, by omega, rfl, rfl, rfl, rfl, rfl, rfl, rfl, fun j hj => by omega, fun j h1 h2 => by omega⟩
  · rintro m σ h' K' ⟨a, c, hm, hac, hc, rfl, s0, s1, s2, s8, s9, s10, h1, h2⟩ next
    try simp only [s0, s1, s2, s8, s9, s10, cdK_dec, or_false, false_or, Bool.and_self, Bool.and_true, Bool.true_and, Bool.and_false, Bool.false_and, Bool.not_not, Int.cast_ofNat_Int, beq_self_eq_true, Heap.set_same, Heap.set_set, Heap.kill_kset, Int.toNat_natCast, Int.natCast_nonneg, Int.ofNat_lt, Int.ofNat_le, Int.natCast_inj, pmC, pmE, pmS, pmV, pmK, pmQ, pmL, pmX, pmF, pmO, pmA, pmR, pmW, pmB, Option.isSome_some, ft, olds_ints, olds_bools, ↓reduceIte, Nat.reduceEqDiff, reduceCtorEq, Nat.reduceAdd, Nat.reduceMul, Nat.reduceLeDiff, Nat.reduceLT, Int.reduceLE, Int.reduceLT, Int.reduceEq, Int.reduceToNat, Nat.zero_mul, Nat.zero_add, Nat.mul_one, ne_eq, not_false_eq_true, not_true_eq_false, true_and, and_true, decide_true, decide_false, Bool.not_true, Bool.not_false, Bool.false_eq_true, and_self, Nat.add_zero]
    refine ⟨fun hlt => ?_, fun hge => ?_⟩
    · have hlt' : a < c := by omega
      have e1 : IntKind.i64.wrap ((a : Int) + c) = (a : Int) + c := wrap_in (by omega) (by omega)
      have e2 : IntKind.u64.wrap ((a : Int) + c) = (a : Int) + c := by rw [IntKind.wrap_u64]; omega
      have e3 : ((a : Int) + c).fdiv (2 ^ (min 1 IntKind.u64.bits)) = (((a + c) / 2 : Nat) : Int) := by
        rw [show (2 : Int) ^ (min 1 IntKind.u64.bits) = 2 from rfl, Int.fdiv_eq_ediv_of_nonneg _ (by omega)]; omega
      have e4 : IntKind.i64.wrap (((a + c) / 2 : Nat) : Int) = (((a + c) / 2 : Nat) : Int) := wrap_in (by omega) (by omega)
      have hmid : (a + c) / 2 < l.length := by omega
      have hx := flat_at l5 5 l5_len l hmid
      have hx2 : (a + c) / 2 * 5 + 5 ≤ (l.flatMap l5).length := by rw [flat_length l5 5 l5_len]; omega
      try simp only [e1, e2, e3, e4, hx, hx2, hmid, s0, s1, s2, or_false, false_or, Bool.and_self, Bool.and_true, Bool.true_and, Bool.and_false, Bool.false_and, Bool.not_not, Int.cast_ofNat_Int, beq_self_eq_true, Heap.set_same, Heap.set_set, Heap.kill_kset, Int.toNat_natCast, Int.natCast_nonneg, Int.ofNat_lt, Int.ofNat_le, Int.natCast_inj, pmC, pmE, pmS, pmV, pmK, pmQ, pmL, pmX, pmF, pmO, pmA, pmR, pmW, pmB, Option.isSome_some, ft, olds_ints, olds_bools, ↓reduceIte, Nat.reduceEqDiff, reduceCtorEq, Nat.reduceAdd, Nat.reduceMul, Nat.reduceLeDiff, Nat.reduceLT, Int.reduceLE, Int.reduceLT, Int.reduceEq, Int.reduceToNat, Nat.zero_mul, Nat.zero_add, Nat.mul_one, ne_eq, not_false_eq_true, not_true_eq_false, true_and, and_true, decide_true, decide_false, Bool.not_true, Bool.not_false, Bool.false_eq_true, and_self, Nat.add_zero]
      refine cmp _ _ (hk hmid) hb _ ?_
      by_cases hq : key l ((a + c) / 2) < max b 0
      · have hd : (l.getD ((a + c) / 2) default).1 - max b 0 < 0 := by unfold key at hq; omega
        try simp only [hd, or_false, false_or, Bool.and_self, Bool.and_true, Bool.true_and, Bool.and_false, Bool.false_and, Bool.not_not, Int.cast_ofNat_Int, beq_self_eq_true, Heap.set_same, Heap.set_set, Heap.kill_kset, Int.toNat_natCast, Int.natCast_nonneg, Int.ofNat_lt, Int.ofNat_le, Int.natCast_inj, pmC, pmE, pmS, pmV, pmK, pmQ, pmL, pmX, pmF, pmO, pmA, pmR, pmW, pmB, Option.isSome_some, ft, olds_ints, olds_bools, ↓reduceIte, Nat.reduceEqDiff, reduceCtorEq, Nat.reduceAdd, Nat.reduceMul, Nat.reduceLeDiff, Nat.reduceLT, Int.reduceLE, Int.reduceLT, Int.reduceEq, Int.reduceToNat, Nat.zero_mul, Nat.zero_add, Nat.mul_one, ne_eq, not_false_eq_true, not_true_eq_false, true_and, and_true, decide_true, decide_false, Bool.not_true, Bool.not_false, Bool.false_eq_true, and_self, Nat.add_zero]
        have e5 : IntKind.i64.wrap ((((a + c) / 2 : Nat) : Int) + 1) = (((a + c) / 2 + 1 : Nat) : Int) := by rw [wrap_in (by omega) (by omega)]; omega
        try simp only [e5, or_false, false_or, Bool.and_self, Bool.and_true, Bool.true_and, Bool.and_false, Bool.false_and, Bool.not_not, Int.cast_ofNat_Int, beq_self_eq_true, Heap.set_same, Heap.set_set, Heap.kill_kset, Int.toNat_natCast, Int.natCast_nonneg, Int.ofNat_lt, Int.ofNat_le, Int.natCast_inj, pmC, pmE, pmS, pmV, pmK, pmQ, pmL, pmX, pmF, pmO, pmA, pmR, pmW, pmB, Option.isSome_some, ft, olds_ints, olds_bools, ↓reduceIte, Nat.reduceEqDiff, reduceCtorEq, Nat.reduceAdd, Nat.reduceMul, Nat.reduceLeDiff, Nat.reduceLT, Int.reduceLE, Int.reduceLT, Int.reduceEq, Int.reduceToNat, Nat.zero_mul, Nat.zero_add, Nat.mul_one, ne_eq, not_false_eq_true, not_true_eq_false, true_and, and_true, decide_true, decide_false, Bool.not_true, Bool.not_false, Bool.false_eq_true, and_self, Nat.add_zero]
        refine next (c - ((a + c) / 2 + 1)) _ _ (by omega) ⟨(a + c) / 2 + 1, c, by omega, by omega, hc, rfl, by simp [put, s0], by simp [put, s1], by simp [put, s2], by simp [put, s8], by simp [put], by simp [put, s10], fun j hj => ?_, h2⟩
        rcases Nat.lt_or_ge j ((a + c) / 2) with q | q
        · have := hs q hmid; unfold key at hq ⊢; omega
        · have : j = (a + c) / 2 := by omega
          subst this; exact hq
      · have hd : ¬ (l.getD ((a + c) / 2) default).1 - max b 0 < 0 := by unfold key at hq; omega
        try simp only [hd, or_false, false_or, Bool.and_self, Bool.and_true, Bool.true_and, Bool.and_false, Bool.false_and, Bool.not_not, Int.cast_ofNat_Int, beq_self_eq_true, Heap.set_same, Heap.set_set, Heap.kill_kset, Int.toNat_natCast, Int.natCast_nonneg, Int.ofNat_lt, Int.ofNat_le, Int.natCast_inj, pmC, pmE, pmS, pmV, pmK, pmQ, pmL, pmX, pmF, pmO, pmA, pmR, pmW, pmB, Option.isSome_some, ft, olds_ints, olds_bools, ↓reduceIte, Nat.reduceEqDiff, reduceCtorEq, Nat.reduceAdd, Nat.reduceMul, Nat.reduceLeDiff, Nat.reduceLT, Int.reduceLE, Int.reduceLT, Int.reduceEq, Int.reduceToNat, Nat.zero_mul, Nat.zero_add, Nat.mul_one, ne_eq, not_false_eq_true, not_true_eq_false, true_and, and_true, decide_true, decide_false, Bool.not_true, Bool.not_false, Bool.false_eq_true, and_self, Nat.add_zero]
        refine next ((a + c) / 2 - a) _ _ (by omega) ⟨a, (a + c) / 2, by omega, by omega, by omega, rfl, by simp [put, s0], by simp [put, s1], by simp [put, s2], by simp [put, s8], by simp [put, s9], by simp [put], h1, fun j hj hj2 => ?_⟩
        rcases Nat.lt_or_ge ((a + c) / 2) j with q | q
        · have := hs q hj2; unfold key at hq ⊢; omega
        · have : j = (a + c) / 2 := by omega
          subst this; omega
    · have hac' : a = c := by omega
      subst hac'
      have kk := k a hc h1 h2
      try simp only [s0, s1, s2, s8, s9, or_false, false_or, Bool.and_self, Bool.and_true, Bool.true_and, Bool.and_false, Bool.false_and, Bool.not_not, Int.cast_ofNat_Int, beq_self_eq_true, Heap.set_same, Heap.set_set, Heap.kill_kset, Int.toNat_natCast, Int.natCast_nonneg, Int.ofNat_lt, Int.ofNat_le, Int.natCast_inj, pmC, pmE, pmS, pmV, pmK, pmQ, pmL, pmX, pmF, pmO, pmA, pmR, pmW, pmB, Option.isSome_some, ft, olds_ints, olds_bools, ↓reduceIte, Nat.reduceEqDiff, reduceCtorEq, Nat.reduceAdd, Nat.reduceMul, Nat.reduceLeDiff, Nat.reduceLT, Int.reduceLE, Int.reduceLT, Int.reduceEq, Int.reduceToNat, Nat.zero_mul, Nat.zero_add, Nat.mul_one, ne_eq, not_false_eq_true, not_true_eq_false, true_and, and_true, decide_true, decide_false, Bool.not_true, Bool.not_false, Bool.false_eq_true, and_self, Nat.add_zero]
      by_cases hal : a < l.length
      · have hx := flat_at l5 5 l5_len l hal
        have hx2 : a * 5 + 5 ≤ (l.flatMap l5).length := by rw [flat_length l5 5 l5_len]; omega
        try simp only [hal, hx, hx2, s0, s1, s2, s9, or_false, false_or, Bool.and_self, Bool.and_true, Bool.true_and, Bool.and_false, Bool.false_and, Bool.not_not, Int.cast_ofNat_Int, beq_self_eq_true, Heap.set_same, Heap.set_set, Heap.kill_kset, Int.toNat_natCast, Int.natCast_nonneg, Int.ofNat_lt, Int.ofNat_le, Int.natCast_inj, pmC, pmE, pmS, pmV, pmK, pmQ, pmL, pmX, pmF, pmO, pmA, pmR, pmW, pmB, Option.isSome_some, ft, olds_ints, olds_bools, ↓reduceIte, Nat.reduceEqDiff, reduceCtorEq, Nat.reduceAdd, Nat.reduceMul, Nat.reduceLeDiff, Nat.reduceLT, Int.reduceLE, Int.reduceLT, Int.reduceEq, Int.reduceToNat, Nat.zero_mul, Nat.zero_add, Nat.mul_one, ne_eq, not_false_eq_true, not_true_eq_false, true_and, and_true, decide_true, decide_false, Bool.not_true, Bool.not_false, Bool.false_eq_true, and_self, Nat.add_zero]
        refine cmp _ _ (hk hal) hb _ ?_
        by_cases hq : key l a = max b 0
        · have hd : (l.getD a default).1 - max b 0 = 0 := by unfold key at hq; omega
          rw [decide_eq_true ⟨hal, hq⟩] at kk
          try simp only [hd, or_false, false_or, Bool.and_self, Bool.and_true, Bool.true_and, Bool.and_false, Bool.false_and, Bool.not_not, Int.cast_ofNat_Int, beq_self_eq_true, Heap.set_same, Heap.set_set, Heap.kill_kset, Int.toNat_natCast, Int.natCast_nonneg, Int.ofNat_lt, Int.ofNat_le, Int.natCast_inj, pmC, pmE, pmS, pmV, pmK, pmQ, pmL, pmX, pmF, pmO, pmA, pmR, pmW, pmB, Option.isSome_some, ft, olds_ints, olds_bools, ↓reduceIte, Nat.reduceEqDiff, reduceCtorEq, Nat.reduceAdd, Nat.reduceMul, Nat.reduceLeDiff, Nat.reduceLT, Int.reduceLE, Int.reduceLT, Int.reduceEq, Int.reduceToNat, Nat.zero_mul, Nat.zero_add, Nat.mul_one, ne_eq, not_false_eq_true, not_true_eq_false, true_and, and_true, decide_true, decide_false, Bool.not_true, Bool.not_false, Bool.false_eq_true, and_self, Nat.add_zero]
          exact finK_le (Heap.le_refl _) kk
        · have hd : ¬ (l.getD a default).1 - max b 0 = 0 := by unfold key at hq; omega
          rw [decide_eq_false (fun hh => hq hh.2)] at kk
          try simp only [hd, or_false, false_or, Bool.and_self, Bool.and_true, Bool.true_and, Bool.and_false, Bool.false_and, Bool.not_not, Int.cast_ofNat_Int, beq_self_eq_true, Heap.set_same, Heap.set_set, Heap.kill_kset, Int.toNat_natCast, Int.natCast_nonneg, Int.ofNat_lt, Int.ofNat_le, Int.natCast_inj, pmC, pmE, pmS, pmV, pmK, pmQ, pmL, pmX, pmF, pmO, pmA, pmR, pmW, pmB, Option.isSome_some, ft, olds_ints, olds_bools, ↓reduceIte, Nat.reduceEqDiff, reduceCtorEq, Nat.reduceAdd, Nat.reduceMul, Nat.reduceLeDiff, Nat.reduceLT, Int.reduceLE, Int.reduceLT, Int.reduceEq, Int.reduceToNat, Nat.zero_mul, Nat.zero_add, Nat.mul_one, ne_eq, not_false_eq_true, not_true_eq_false, true_and, and_true, decide_true, decide_false, Bool.not_true, Bool.not_false, Bool.false_eq_true, and_self, Nat.add_zero]
          exact finK_le (Heap.le_refl _) kk
      · rw [decide_eq_false (fun hh => hal hh.1)] at kk
        try simp only [hal, or_false, false_or, Bool.and_self, Bool.and_true, Bool.true_and, Bool.and_false, Bool.false_and, Bool.not_not, Int.cast_ofNat_Int, beq_self_eq_true, Heap.set_same, Heap.set_set, Heap.kill_kset, Int.toNat_natCast, Int.natCast_nonneg, Int.ofNat_lt, Int.ofNat_le, Int.natCast_inj, pmC, pmE, pmS, pmV, pmK, pmQ, pmL, pmX, pmF, pmO, pmA, pmR, pmW, pmB, Option.isSome_some, ft, olds_ints, olds_bools, ↓reduceIte, Nat.reduceEqDiff, reduceCtorEq, Nat.reduceAdd, Nat.reduceMul, Nat.reduceLeDiff, Nat.reduceLT, Int.reduceLE, Int.reduceLT, Int.reduceEq, Int.reduceToNat, Nat.zero_mul, Nat.zero_add, Nat.mul_one, ne_eq, not_false_eq_true, not_true_eq_false, true_and, and_true, decide_true, decide_false, Bool.not_true, Bool.not_false, Bool.false_eq_true, and_self, Nat.add_zero]
        exact finK_le (Heap.le_refl _) kk
/-- A letter's form; whether there is one. -/
def formQ (b f : Int) (p : L5) : Bool := decide (p.1 = b) && (decide (1 ≤ f ∧ f ≤ 4) && decide ((fl p).getD (f - 1).toNat default ≠ 0))
def formF (gs : List L5) (b f : Int) : Int × Bool := match gs.find? (formQ b f) with
  | none => (0, false)
  | some p => ((fl p).getD (f - 1).toNat default, true)
def formP (gs : List L5) (b f : Int) : PV := .tup [.int .i64 (formF gs b f).1, .bool (formF gs b f).2]
theorem getD_mem {α : Type} [Inhabited α] {l : List α} {x : α} (h : x ∈ l) : ∃ i, i < l.length ∧ l.getD i default = x := by
  obtain ⟨i, h1, h2⟩ := List.mem_iff_getElem.1 h
  exact ⟨i, h1, by simp [List.getD, h1, h2]⟩
theorem find_key {b f : Int} {p : Nat} (hp : p < lets.length) (hk : key lets p = b) : lets.find? (formQ b f) = if formQ b f (lets.getD p default) then some (lets.getD p default) else none := by
  cases e : lets.find? (formQ b f) with
  | none =>
    have := List.find?_eq_none.1 e (lets.getD p default) (by simp [List.getD, hp])
    rw [if_neg this]
  | some x =>
    have h1 := List.find?_some e
    obtain ⟨i, h2, h3⟩ := getD_mem (List.mem_of_find?_eq_some e)
    have hx : x.1 = b := by
      unfold formQ at h1
      simp only [Bool.and_eq_true, decide_eq_true_eq] at h1
      exact h1.1
    unfold key at hk
    have : i = p := by
      rcases Nat.lt_trichotomy i p with q | q | q
      · have := rises q hp; rw [h3] at this; omega
      · exact q
      · have := rises q h2; rw [h3] at this; omega
    subst this
    rw [h3, if_pos h1]
theorem find_no {b f : Int} (h : ∀ i, i < lets.length → key lets i ≠ b) : lets.find? (formQ b f) = none := by
  rw [List.find?_eq_none]
  intro x hx
  obtain ⟨i, h2, h3⟩ := getD_mem hx
  have := h i h2
  unfold key at this
  rw [h3] at this
  simp [formQ, this]
theorem Form (b f : Int) (hb : b ≤ 9223372036854775807) (h : Heap) {K : PV → Heap → Prop} (k : K (formP lets b f) h) : CanP Try.prog 22 [.int .i64 b, .int .i64 f] h K := by
  refine e22 rfl ?_
  try simp only [c22, r22_0, r22_1, r22_2, r22_3, r22_4, r22_5, r22_6, r22_7, r22_8, or_false, false_or, Bool.and_self, Bool.and_true, Bool.true_and, Bool.and_false, Bool.false_and, Bool.not_not, Int.cast_ofNat_Int, beq_self_eq_true, Heap.set_same, Heap.set_set, Heap.kill_kset, Int.toNat_natCast, Int.natCast_nonneg, Int.ofNat_lt, Int.ofNat_le, Int.natCast_inj, pmC, pmE, pmS, pmV, pmK, pmQ, pmL, pmX, pmF, pmO, pmA, pmR, pmW, pmB, Option.isSome_some, ft, olds_ints, olds_bools, ↓reduceIte, Nat.reduceEqDiff, reduceCtorEq, Nat.reduceAdd, Nat.reduceMul, Nat.reduceLeDiff, Nat.reduceLT, Int.reduceLE, Int.reduceLT, Int.reduceEq, Int.reduceToNat, Nat.zero_mul, Nat.zero_add, Nat.mul_one, ne_eq, not_false_eq_true, not_true_eq_false, true_and, and_true, decide_true, decide_false, Bool.not_true, Bool.not_false, Bool.false_eq_true, and_self, Nat.add_zero]
  rw [formP] at k
  by_cases f1 : f < 1
  · have : lets.find? (formQ b f) = none := by
      rw [List.find?_eq_none]; intro x _; simp [formQ]; omega
    rw [formF, this] at k
    try simp only [f1, or_false, false_or, Bool.and_self, Bool.and_true, Bool.true_and, Bool.and_false, Bool.false_and, Bool.not_not, Int.cast_ofNat_Int, beq_self_eq_true, Heap.set_same, Heap.set_set, Heap.kill_kset, Int.toNat_natCast, Int.natCast_nonneg, Int.ofNat_lt, Int.ofNat_le, Int.natCast_inj, pmC, pmE, pmS, pmV, pmK, pmQ, pmL, pmX, pmF, pmO, pmA, pmR, pmW, pmB, Option.isSome_some, ft, olds_ints, olds_bools, ↓reduceIte, Nat.reduceEqDiff, reduceCtorEq, Nat.reduceAdd, Nat.reduceMul, Nat.reduceLeDiff, Nat.reduceLT, Int.reduceLE, Int.reduceLT, Int.reduceEq, Int.reduceToNat, Nat.zero_mul, Nat.zero_add, Nat.mul_one, ne_eq, not_false_eq_true, not_true_eq_false, true_and, and_true, decide_true, decide_false, Bool.not_true, Bool.not_false, Bool.false_eq_true, and_self, Nat.add_zero]
    exact finK_le (Heap.le_refl _) k
  · by_cases f2 : 4 < f
    · have : lets.find? (formQ b f) = none := by
        rw [List.find?_eq_none]; intro x _; simp [formQ]; omega
      rw [formF, this] at k
      try simp only [f1, f2, or_false, false_or, Bool.and_self, Bool.and_true, Bool.true_and, Bool.and_false, Bool.false_and, Bool.not_not, Int.cast_ofNat_Int, beq_self_eq_true, Heap.set_same, Heap.set_set, Heap.kill_kset, Int.toNat_natCast, Int.natCast_nonneg, Int.ofNat_lt, Int.ofNat_le, Int.natCast_inj, pmC, pmE, pmS, pmV, pmK, pmQ, pmL, pmX, pmF, pmO, pmA, pmR, pmW, pmB, Option.isSome_some, ft, olds_ints, olds_bools, ↓reduceIte, Nat.reduceEqDiff, reduceCtorEq, Nat.reduceAdd, Nat.reduceMul, Nat.reduceLeDiff, Nat.reduceLT, Int.reduceLE, Int.reduceLT, Int.reduceEq, Int.reduceToNat, Nat.zero_mul, Nat.zero_add, Nat.mul_one, ne_eq, not_false_eq_true, not_true_eq_false, true_and, and_true, decide_true, decide_false, Bool.not_true, Bool.not_false, Bool.false_eq_true, and_self, Nat.add_zero]
      exact finK_le (Heap.le_refl _) k
    · try simp only [f1, f2, or_false, false_or, Bool.and_self, Bool.and_true, Bool.true_and, Bool.and_false, Bool.false_and, Bool.not_not, Int.cast_ofNat_Int, beq_self_eq_true, Heap.set_same, Heap.set_set, Heap.kill_kset, Int.toNat_natCast, Int.natCast_nonneg, Int.ofNat_lt, Int.ofNat_le, Int.natCast_inj, pmC, pmE, pmS, pmV, pmK, pmQ, pmL, pmX, pmF, pmO, pmA, pmR, pmW, pmB, Option.isSome_some, ft, olds_ints, olds_bools, ↓reduceIte, Nat.reduceEqDiff, reduceCtorEq, Nat.reduceAdd, Nat.reduceMul, Nat.reduceLeDiff, Nat.reduceLT, Int.reduceLE, Int.reduceLT, Int.reduceEq, Int.reduceToNat, Nat.zero_mul, Nat.zero_add, Nat.mul_one, ne_eq, not_false_eq_true, not_true_eq_false, true_and, and_true, decide_true, decide_false, Bool.not_true, Bool.not_false, Bool.false_eq_true, and_self, Nat.add_zero]
      refine Letters _ ?_
      try simp only [or_false, false_or, Bool.and_self, Bool.and_true, Bool.true_and, Bool.and_false, Bool.false_and, Bool.not_not, Int.cast_ofNat_Int, beq_self_eq_true, Heap.set_same, Heap.set_set, Heap.kill_kset, Int.toNat_natCast, Int.natCast_nonneg, Int.ofNat_lt, Int.ofNat_le, Int.natCast_inj, pmC, pmE, pmS, pmV, pmK, pmQ, pmL, pmX, pmF, pmO, pmA, pmR, pmW, pmB, Option.isSome_some, ft, olds_ints, olds_bools, ↓reduceIte, Nat.reduceEqDiff, reduceCtorEq, Nat.reduceAdd, Nat.reduceMul, Nat.reduceLeDiff, Nat.reduceLT, Int.reduceLE, Int.reduceLT, Int.reduceEq, Int.reduceToNat, Nat.zero_mul, Nat.zero_add, Nat.mul_one, ne_eq, not_false_eq_true, not_true_eq_false, true_and, and_true, decide_true, decide_false, Bool.not_true, Bool.not_false, Bool.false_eq_true, and_self, Nat.add_zero]
      refine BinF _ _ hb _ fun p q1 q2 q3 => ?_
      have fk := fun (hp : p < lets.length) (hk : key lets p = b) => find_key (f := f) hp hk
      have fno := find_no (b := b) (f := f)
      have hs := @rises
      have hk0 := @keys
      have hl : lets.length ≤ 100 := by decide
      unfold formF at k
      generalize lets = l at *
      by_cases hf : p < l.length ∧ key l p = max b 0
      · rw [decide_eq_true hf]
        have x0 := flat_get l5 5 l5_len l hf.1 (j := 0) (by omega)
        rw [Nat.add_zero, show (l5 (l.getD p default))[0]? = some (PV.int .i64 (l.getD p default).1) from rfl] at x0
        have hfl : (f - 1).toNat < (fl (l.getD p default)).length := by rw [fl_len]; omega
        have xj := flat_get l5 5 l5_len l hf.1 (j := (f - 1).toNat + 1) (by omega)
        rw [show (l5 (l.getD p default))[(f - 1).toNat + 1]? = ((fl (l.getD p default)).map (PV.int .i64))[(f - 1).toNat]? from rfl, getm (PV.int .i64) _ hfl, show p * 5 + ((f - 1).toNat + 1) = p * 5 + 1 + (f - 1).toNat by omega] at xj
        have fk := fk hf.1
        have hpl := hf.1
        have hkp := hk0 hf.1
        have hkk := hf.2
        unfold key at fk hkk
        generalize (l.getD p default) = x at *
        by_cases hx : x.1 = b
        · have hd := decide_eq_true hx
          rw [fk hx] at k
          unfold formQ at k
          rw [hd, decide_eq_true (show 1 ≤ f ∧ f ≤ 4 by omega)] at k
          have ew : IntKind.i64.wrap (f - 1) = f - 1 := wrap_in (by omega) (by omega)
          have g1 : 0 ≤ f - 1 := by omega
          have g2 : f - 1 < 4 := by omega
          try simp only [hpl, x0, hd, ew, g1, g2, Nat.mul_one, xj, or_false, false_or, Bool.and_self, Bool.and_true, Bool.true_and, Bool.and_false, Bool.false_and, Bool.not_not, Int.cast_ofNat_Int, beq_self_eq_true, Heap.set_same, Heap.set_set, Heap.kill_kset, Int.toNat_natCast, Int.natCast_nonneg, Int.ofNat_lt, Int.ofNat_le, Int.natCast_inj, pmC, pmE, pmS, pmV, pmK, pmQ, pmL, pmX, pmF, pmO, pmA, pmR, pmW, pmB, Option.isSome_some, ft, olds_ints, olds_bools, ↓reduceIte, Nat.reduceEqDiff, reduceCtorEq, Nat.reduceAdd, Nat.reduceMul, Nat.reduceLeDiff, Nat.reduceLT, Int.reduceLE, Int.reduceLT, Int.reduceEq, Int.reduceToNat, Nat.zero_mul, Nat.zero_add, Nat.mul_one, ne_eq, not_false_eq_true, not_true_eq_false, true_and, and_true, decide_true, decide_false, Bool.not_true, Bool.not_false, Bool.false_eq_true, and_self, Nat.add_zero]
          by_cases hz : (fl x).getD (f - 1).toNat default = 0
          · rw [hz] at k ⊢
            try simp only [or_false, false_or, Bool.and_self, Bool.and_true, Bool.true_and, Bool.and_false, Bool.false_and, Bool.not_not, Int.cast_ofNat_Int, beq_self_eq_true, Heap.set_same, Heap.set_set, Heap.kill_kset, Int.toNat_natCast, Int.natCast_nonneg, Int.ofNat_lt, Int.ofNat_le, Int.natCast_inj, pmC, pmE, pmS, pmV, pmK, pmQ, pmL, pmX, pmF, pmO, pmA, pmR, pmW, pmB, Option.isSome_some, ft, olds_ints, olds_bools, ↓reduceIte, Nat.reduceEqDiff, reduceCtorEq, Nat.reduceAdd, Nat.reduceMul, Nat.reduceLeDiff, Nat.reduceLT, Int.reduceLE, Int.reduceLT, Int.reduceEq, Int.reduceToNat, Nat.zero_mul, Nat.zero_add, Nat.mul_one, ne_eq, not_false_eq_true, not_true_eq_false, true_and, and_true, decide_true, decide_false, Bool.not_true, Bool.not_false, Bool.false_eq_true, and_self, Nat.add_zero]
            exact finK_le (Heap.le_refl _) (by simpa using k)
          · have hdz := decide_eq_false hz
            rw [decide_eq_true (show (fl x).getD (f - 1).toNat default ≠ 0 from hz)] at k
            try simp only [hdz, or_false, false_or, Bool.and_self, Bool.and_true, Bool.true_and, Bool.and_false, Bool.false_and, Bool.not_not, Int.cast_ofNat_Int, beq_self_eq_true, Heap.set_same, Heap.set_set, Heap.kill_kset, Int.toNat_natCast, Int.natCast_nonneg, Int.ofNat_lt, Int.ofNat_le, Int.natCast_inj, pmC, pmE, pmS, pmV, pmK, pmQ, pmL, pmX, pmF, pmO, pmA, pmR, pmW, pmB, Option.isSome_some, ft, olds_ints, olds_bools, ↓reduceIte, Nat.reduceEqDiff, reduceCtorEq, Nat.reduceAdd, Nat.reduceMul, Nat.reduceLeDiff, Nat.reduceLT, Int.reduceLE, Int.reduceLT, Int.reduceEq, Int.reduceToNat, Nat.zero_mul, Nat.zero_add, Nat.mul_one, ne_eq, not_false_eq_true, not_true_eq_false, true_and, and_true, decide_true, decide_false, Bool.not_true, Bool.not_false, Bool.false_eq_true, and_self, Nat.add_zero]
            exact finK_le (Heap.le_refl _) k
        · have hno : l.find? (formQ b f) = none := fno fun i hi e => by
            have : max b 0 = b := by have := hk0 hi; unfold key at e; omega
            omega
          rw [hno] at k
          try simp only [hpl, x0, hx, or_false, false_or, Bool.and_self, Bool.and_true, Bool.true_and, Bool.and_false, Bool.false_and, Bool.not_not, Int.cast_ofNat_Int, beq_self_eq_true, Heap.set_same, Heap.set_set, Heap.kill_kset, Int.toNat_natCast, Int.natCast_nonneg, Int.ofNat_lt, Int.ofNat_le, Int.natCast_inj, pmC, pmE, pmS, pmV, pmK, pmQ, pmL, pmX, pmF, pmO, pmA, pmR, pmW, pmB, Option.isSome_some, ft, olds_ints, olds_bools, ↓reduceIte, Nat.reduceEqDiff, reduceCtorEq, Nat.reduceAdd, Nat.reduceMul, Nat.reduceLeDiff, Nat.reduceLT, Int.reduceLE, Int.reduceLT, Int.reduceEq, Int.reduceToNat, Nat.zero_mul, Nat.zero_add, Nat.mul_one, ne_eq, not_false_eq_true, not_true_eq_false, true_and, and_true, decide_true, decide_false, Bool.not_true, Bool.not_false, Bool.false_eq_true, and_self, Nat.add_zero]
          exact finK_le (Heap.le_refl _) k
      · have hno : l.find? (formQ b f) = none := fno fun i hi e => by
          have hb0 : max b 0 = b := by have := hk0 hi; unfold key at e; omega
          rcases Nat.lt_trichotomy i p with q | q | q
          · have := q2 i q; omega
          · subst q; exact hf ⟨hi, by omega⟩
          · have := q3 p (Nat.le_refl _) (by omega)
            have := hs q hi
            unfold key at *
            omega
        rw [hno] at k
        rw [decide_eq_false hf]
        try simp only [or_false, false_or, Bool.and_self, Bool.and_true, Bool.true_and, Bool.and_false, Bool.false_and, Bool.not_not, Int.cast_ofNat_Int, beq_self_eq_true, Heap.set_same, Heap.set_set, Heap.kill_kset, Int.toNat_natCast, Int.natCast_nonneg, Int.ofNat_lt, Int.ofNat_le, Int.natCast_inj, pmC, pmE, pmS, pmV, pmK, pmQ, pmL, pmX, pmF, pmO, pmA, pmR, pmW, pmB, Option.isSome_some, ft, olds_ints, olds_bools, ↓reduceIte, Nat.reduceEqDiff, reduceCtorEq, Nat.reduceAdd, Nat.reduceMul, Nat.reduceLeDiff, Nat.reduceLT, Int.reduceLE, Int.reduceLT, Int.reduceEq, Int.reduceToNat, Nat.zero_mul, Nat.zero_add, Nat.mul_one, ne_eq, not_false_eq_true, not_true_eq_false, true_and, and_true, decide_true, decide_false, Bool.not_true, Bool.not_false, Bool.false_eq_true, and_self, Nat.add_zero]
        exact finK_le (Heap.le_refl _) k
theorem FormR (b f : Int) (h : Heap) {K : PV → Heap → Prop} (k : K (formP lets b f) h) : CanP Try.prog 23 [.int .i64 b, .int .i64 f] h K := by
  refine e23 rfl ?_
  try simp only [c23, r23_0, r23_1, r23_2, r23_3, r23_4, r23_5, r23_6, r23_7, or_false, false_or, Bool.and_self, Bool.and_true, Bool.true_and, Bool.and_false, Bool.false_and, Bool.not_not, Int.cast_ofNat_Int, beq_self_eq_true, Heap.set_same, Heap.set_set, Heap.kill_kset, Int.toNat_natCast, Int.natCast_nonneg, Int.ofNat_lt, Int.ofNat_le, Int.natCast_inj, pmC, pmE, pmS, pmV, pmK, pmQ, pmL, pmX, pmF, pmO, pmA, pmR, pmW, pmB, Option.isSome_some, ft, olds_ints, olds_bools, ↓reduceIte, Nat.reduceEqDiff, reduceCtorEq, Nat.reduceAdd, Nat.reduceMul, Nat.reduceLeDiff, Nat.reduceLT, Int.reduceLE, Int.reduceLT, Int.reduceEq, Int.reduceToNat, Nat.zero_mul, Nat.zero_add, Nat.mul_one, ne_eq, not_false_eq_true, not_true_eq_false, true_and, and_true, decide_true, decide_false, Bool.not_true, Bool.not_false, Bool.false_eq_true, and_self, Nat.add_zero]
  refine Letters _ ?_
  have hlen : lets.length ≤ 100 := by decide
  rw [formP, formF] at k
  generalize lets = gs at *
  try simp only [or_false, false_or, Bool.and_self, Bool.and_true, Bool.true_and, Bool.and_false, Bool.false_and, Bool.not_not, Int.cast_ofNat_Int, beq_self_eq_true, Heap.set_same, Heap.set_set, Heap.kill_kset, Int.toNat_natCast, Int.natCast_nonneg, Int.ofNat_lt, Int.ofNat_le, Int.natCast_inj, pmC, pmE, pmS, pmV, pmK, pmQ, pmL, pmX, pmF, pmO, pmA, pmR, pmW, pmB, Option.isSome_some, ft, olds_ints, olds_bools, ↓reduceIte, Nat.reduceEqDiff, reduceCtorEq, Nat.reduceAdd, Nat.reduceMul, Nat.reduceLeDiff, Nat.reduceLT, Int.reduceLE, Int.reduceLT, Int.reduceEq, Int.reduceToNat, Nat.zero_mul, Nat.zero_add, Nat.mul_one, ne_eq, not_false_eq_true, not_true_eq_false, true_and, and_true, decide_true, decide_false, Bool.not_true, Bool.not_false, Bool.false_eq_true, and_self, Nat.add_zero]
  refine pwp_up gs.length (fun i σ h' => h' = h ∧ σ 0 = .int .i64 b ∧ σ 1 = .int .i64 f ∧ σ 6 = .list true 5 gs.length (gs.flatMap l5) ∧ σ 7 = .int .i64 i ∧ gs.find? (formQ b f) = (gs.drop i).find? (formQ b f)) ?_ ?_
  · exact ⟨rfl, rfl, rfl, rfl, rfl, rfl⟩
  · rintro i σ h' K' hi ⟨rfl, s0, s1, s6, s7, hp⟩ next
    try simp only [s6, s7, cdK_dec, or_false, false_or, Bool.and_self, Bool.and_true, Bool.true_and, Bool.and_false, Bool.false_and, Bool.not_not, Int.cast_ofNat_Int, beq_self_eq_true, Heap.set_same, Heap.set_set, Heap.kill_kset, Int.toNat_natCast, Int.natCast_nonneg, Int.ofNat_lt, Int.ofNat_le, Int.natCast_inj, pmC, pmE, pmS, pmV, pmK, pmQ, pmL, pmX, pmF, pmO, pmA, pmR, pmW, pmB, Option.isSome_some, ft, olds_ints, olds_bools, ↓reduceIte, Nat.reduceEqDiff, reduceCtorEq, Nat.reduceAdd, Nat.reduceMul, Nat.reduceLeDiff, Nat.reduceLT, Int.reduceLE, Int.reduceLT, Int.reduceEq, Int.reduceToNat, Nat.zero_mul, Nat.zero_add, Nat.mul_one, ne_eq, not_false_eq_true, not_true_eq_false, true_and, and_true, decide_true, decide_false, Bool.not_true, Bool.not_false, Bool.false_eq_true, and_self, Nat.add_zero]
    refine ⟨fun hlt => ?_, fun hge => ?_⟩
    · have x0 := flat_get l5 5 l5_len gs hlt (j := 0) (by omega)
      rw [Nat.add_zero, show (l5 (gs.getD i default))[0]? = some (PV.int .i64 (gs.getD i default).1) from rfl] at x0
      have xj := fun (hf : 1 ≤ f ∧ f ≤ 4) => flat_get l5 5 l5_len gs hlt (j := (f - 1).toNat + 1) (by omega)
      rw [drop_getD gs hlt] at hp
      have hw : IntKind.i64.wrap ((i : Int) + 1) = (i : Int) + 1 := wrap_in (by omega) (by omega)
      generalize gs.getD i default = x at *
      have no : formQ b f x = false → ∀ σ' : Sl, σ' 0 = σ 0 → σ' 1 = σ 1 → σ' 6 = σ 6 → σ' 7 = .int .i64 (i + 1 : Nat) → K' σ' h' := fun e σ' q0 q1 q6 q7 => by
        rw [List.find?_cons_of_neg (by rw [e]; simp)] at hp
        exact next hlt _ _ ⟨rfl, q0.trans s0, q1.trans s1, q6.trans s6, q7, hp⟩
      by_cases h1 : x.1 = b
      · have hd := decide_eq_true h1
        by_cases f1 : 1 ≤ f
        · by_cases f2 : f ≤ 4
          · have hfl : (f - 1).toNat < (fl x).length := by rw [fl_len]; omega
            have xj := xj ⟨f1, f2⟩
            rw [show (l5 x)[(f - 1).toNat + 1]? = ((fl x).map (PV.int .i64))[(f - 1).toNat]? from rfl, getm (PV.int .i64) _ hfl, show i * 5 + ((f - 1).toNat + 1) = i * 5 + 1 + (f - 1).toNat by omega] at xj
            have ew : IntKind.i64.wrap (f - 1) = f - 1 := wrap_in (by omega) (by omega)
            have g1 : 0 ≤ f - 1 := by omega
            have g2 : f - 1 < 4 := by omega
            unfold formQ at hp no
            rw [hd, decide_eq_true (show 1 ≤ f ∧ f ≤ 4 by omega)] at no
            by_cases hz : (fl x).getD (f - 1).toNat default = 0
            · rw [hz] at xj no
              try simp only [hlt, x0, hd, f1, f2, ew, g1, g2, Nat.mul_one, xj, s0, s1, s6, s7, hw, or_false, false_or, Bool.and_self, Bool.and_true, Bool.true_and, Bool.and_false, Bool.false_and, Bool.not_not, Int.cast_ofNat_Int, beq_self_eq_true, Heap.set_same, Heap.set_set, Heap.kill_kset, Int.toNat_natCast, Int.natCast_nonneg, Int.ofNat_lt, Int.ofNat_le, Int.natCast_inj, pmC, pmE, pmS, pmV, pmK, pmQ, pmL, pmX, pmF, pmO, pmA, pmR, pmW, pmB, Option.isSome_some, ft, olds_ints, olds_bools, ↓reduceIte, Nat.reduceEqDiff, reduceCtorEq, Nat.reduceAdd, Nat.reduceMul, Nat.reduceLeDiff, Nat.reduceLT, Int.reduceLE, Int.reduceLT, Int.reduceEq, Int.reduceToNat, Nat.zero_mul, Nat.zero_add, Nat.mul_one, ne_eq, not_false_eq_true, not_true_eq_false, true_and, and_true, decide_true, decide_false, Bool.not_true, Bool.not_false, Bool.false_eq_true, and_self, Nat.add_zero]
              exact no rfl _ (by simp [put]) (by simp [put]) (by simp [put]) (by simp [put])
            · have hdz := decide_eq_false hz
              try simp only [hlt, x0, hd, f1, f2, ew, g1, g2, Nat.mul_one, xj, s0, s1, s6, s7, hdz, or_false, false_or, Bool.and_self, Bool.and_true, Bool.true_and, Bool.and_false, Bool.false_and, Bool.not_not, Int.cast_ofNat_Int, beq_self_eq_true, Heap.set_same, Heap.set_set, Heap.kill_kset, Int.toNat_natCast, Int.natCast_nonneg, Int.ofNat_lt, Int.ofNat_le, Int.natCast_inj, pmC, pmE, pmS, pmV, pmK, pmQ, pmL, pmX, pmF, pmO, pmA, pmR, pmW, pmB, Option.isSome_some, ft, olds_ints, olds_bools, ↓reduceIte, Nat.reduceEqDiff, reduceCtorEq, Nat.reduceAdd, Nat.reduceMul, Nat.reduceLeDiff, Nat.reduceLT, Int.reduceLE, Int.reduceLT, Int.reduceEq, Int.reduceToNat, Nat.zero_mul, Nat.zero_add, Nat.mul_one, ne_eq, not_false_eq_true, not_true_eq_false, true_and, and_true, decide_true, decide_false, Bool.not_true, Bool.not_false, Bool.false_eq_true, and_self, Nat.add_zero]
              rw [List.find?_cons_of_pos (by rw [hd, decide_eq_true (show 1 ≤ f ∧ f ≤ 4 by omega), decide_eq_true (show _ ≠ _ from hz)]; rfl)] at hp
              unfold formQ at k
              rw [hp] at k
              exact finK_le (Heap.le_refl _) k
          · try simp only [hlt, x0, hd, f1, f2, s0, s1, s6, s7, hw, or_false, false_or, Bool.and_self, Bool.and_true, Bool.true_and, Bool.and_false, Bool.false_and, Bool.not_not, Int.cast_ofNat_Int, beq_self_eq_true, Heap.set_same, Heap.set_set, Heap.kill_kset, Int.toNat_natCast, Int.natCast_nonneg, Int.ofNat_lt, Int.ofNat_le, Int.natCast_inj, pmC, pmE, pmS, pmV, pmK, pmQ, pmL, pmX, pmF, pmO, pmA, pmR, pmW, pmB, Option.isSome_some, ft, olds_ints, olds_bools, ↓reduceIte, Nat.reduceEqDiff, reduceCtorEq, Nat.reduceAdd, Nat.reduceMul, Nat.reduceLeDiff, Nat.reduceLT, Int.reduceLE, Int.reduceLT, Int.reduceEq, Int.reduceToNat, Nat.zero_mul, Nat.zero_add, Nat.mul_one, ne_eq, not_false_eq_true, not_true_eq_false, true_and, and_true, decide_true, decide_false, Bool.not_true, Bool.not_false, Bool.false_eq_true, and_self, Nat.add_zero]
            exact no (by simp [formQ]; omega) _ (by simp [put]) (by simp [put]) (by simp [put]) (by simp [put])
        · try simp only [hlt, x0, hd, f1, s0, s1, s6, s7, hw, or_false, false_or, Bool.and_self, Bool.and_true, Bool.true_and, Bool.and_false, Bool.false_and, Bool.not_not, Int.cast_ofNat_Int, beq_self_eq_true, Heap.set_same, Heap.set_set, Heap.kill_kset, Int.toNat_natCast, Int.natCast_nonneg, Int.ofNat_lt, Int.ofNat_le, Int.natCast_inj, pmC, pmE, pmS, pmV, pmK, pmQ, pmL, pmX, pmF, pmO, pmA, pmR, pmW, pmB, Option.isSome_some, ft, olds_ints, olds_bools, ↓reduceIte, Nat.reduceEqDiff, reduceCtorEq, Nat.reduceAdd, Nat.reduceMul, Nat.reduceLeDiff, Nat.reduceLT, Int.reduceLE, Int.reduceLT, Int.reduceEq, Int.reduceToNat, Nat.zero_mul, Nat.zero_add, Nat.mul_one, ne_eq, not_false_eq_true, not_true_eq_false, true_and, and_true, decide_true, decide_false, Bool.not_true, Bool.not_false, Bool.false_eq_true, and_self, Nat.add_zero]
          exact no (by simp [formQ]; omega) _ (by simp [put]) (by simp [put]) (by simp [put]) (by simp [put])
      · try simp only [hlt, x0, h1, s0, s1, s6, s7, hw, or_false, false_or, Bool.and_self, Bool.and_true, Bool.true_and, Bool.and_false, Bool.false_and, Bool.not_not, Int.cast_ofNat_Int, beq_self_eq_true, Heap.set_same, Heap.set_set, Heap.kill_kset, Int.toNat_natCast, Int.natCast_nonneg, Int.ofNat_lt, Int.ofNat_le, Int.natCast_inj, pmC, pmE, pmS, pmV, pmK, pmQ, pmL, pmX, pmF, pmO, pmA, pmR, pmW, pmB, Option.isSome_some, ft, olds_ints, olds_bools, ↓reduceIte, Nat.reduceEqDiff, reduceCtorEq, Nat.reduceAdd, Nat.reduceMul, Nat.reduceLeDiff, Nat.reduceLT, Int.reduceLE, Int.reduceLT, Int.reduceEq, Int.reduceToNat, Nat.zero_mul, Nat.zero_add, Nat.mul_one, ne_eq, not_false_eq_true, not_true_eq_false, true_and, and_true, decide_true, decide_false, Bool.not_true, Bool.not_false, Bool.false_eq_true, and_self, Nat.add_zero]
        exact no (by simp [formQ, h1]) _ (by simp [put]) (by simp [put]) (by simp [put]) (by simp [put])
    · rw [List.drop_eq_nil_of_le (by omega)] at hp
      rw [hp] at k
      try simp only [s6, or_false, false_or, Bool.and_self, Bool.and_true, Bool.true_and, Bool.and_false, Bool.false_and, Bool.not_not, Int.cast_ofNat_Int, beq_self_eq_true, Heap.set_same, Heap.set_set, Heap.kill_kset, Int.toNat_natCast, Int.natCast_nonneg, Int.ofNat_lt, Int.ofNat_le, Int.natCast_inj, pmC, pmE, pmS, pmV, pmK, pmQ, pmL, pmX, pmF, pmO, pmA, pmR, pmW, pmB, Option.isSome_some, ft, olds_ints, olds_bools, ↓reduceIte, Nat.reduceEqDiff, reduceCtorEq, Nat.reduceAdd, Nat.reduceMul, Nat.reduceLeDiff, Nat.reduceLT, Int.reduceLE, Int.reduceLT, Int.reduceEq, Int.reduceToNat, Nat.zero_mul, Nat.zero_add, Nat.mul_one, ne_eq, not_false_eq_true, not_true_eq_false, true_and, and_true, decide_true, decide_false, Bool.not_true, Bool.not_false, Bool.false_eq_true, and_self, Nat.add_zero]
      exact finK_le (Heap.le_refl _) k
end Go.Proofs.Ytlmfdoilbfgleaa
