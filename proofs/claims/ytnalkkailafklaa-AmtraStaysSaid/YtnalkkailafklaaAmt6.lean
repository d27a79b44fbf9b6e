/-
  Marks as they are drawn: the document's answer, walked.
  Conditions: none but those that each sentence tells.
-/
import Derived.Test.YtnalkkailafklaaAmt5
namespace Go.Proofs.Ytnalkkailafklaa
open Go.Pm
set_option maxRecDepth 100000
set_option linter.unusedSimpArgs false
set_option linter.unusedVariables false

def stR (X : List Int) (cls a : Int) : Bool := decide (cccT (X.getD a.toNat default) = cls) && (!decide (cls = 33) && !mvT (X.getD a.toNat default))
/-- Which ones of a row go. -/
def flagF (goes ends : Int → Bool) : Bool → List Int → List Bool
  | _, [] => []
  | e, a :: l => (!(e || ends a) && goes a) :: flagF goes ends (e || ends a) l
theorem flagF_len (goes ends : Int → Bool) : ∀ (l : List Int) (e : Bool), (flagF goes ends e l).length = l.length
  | [], e => rfl
  | a :: l, e => by simp [flagF, flagF_len goes ends l]
theorem flagF_t (goes ends : Int → Bool) : ∀ l : List Int, flagF goes ends true l = List.replicate l.length false
  | [] => rfl
  | a :: l => by simp [flagF, flagF_t goes ends l, List.replicate_succ]
def mvd (X R : List Int) (cls : Int) : List Bool := flagF (isC cccT X cls) (stR X cls) false R
theorem mvd_len (X R : List Int) (cls : Int) : (mvd X R cls).length = R.length := flagF_len _ _ _ _
theorem set_mid {α : Type} (P : List α) (x y : α) (n : Nat) (h : 0 < n) : (P ++ List.replicate n x).set P.length y = P ++ [y] ++ List.replicate (n - 1) x := by
  obtain ⟨m, rfl⟩ : ∃ m, n = m + 1 := ⟨n - 1, by omega⟩
  rw [List.set_append_right _ _ (Nat.le_refl _), Nat.sub_self, List.replicate_succ, List.set_cons_zero]
  simp
theorem movedR (fr : Bool) (X : List Int) (v : PV) (R : List Int) (hl : R.length ≤ 1000000) (okl : ∀ x ∈ R, okP X x) (cls : Int) (h : Heap) (hv : (v = .nils ∧ R = []) ∨ ∃ rk, v = .buf rk 1 0 R.length ∧ h.f rk = some (R.map (.int .i64)))
    {K : PV → Heap → Prop} (k : K (.list true 1 R.length ((mvd X R cls).map .bool)) h) :
    CanP Try.prog 44 [.list fr 1 X.length (X.map (.int .i64)), v, .int .i64 cls] h K := by
  refine e44 rfl ?_
  have hml := mvd_len X R cls
  have fin9 : ∀ (b : Nat), h.f b = none → ∀ (F : List Bool), F = mvd X R cls → finK (.buf b 1 0 R.length) h K (h.set b (F.map .bool)) := by
    intro b hb F e
    have a : Acc h (h.set b (F.map .bool)) (.buf b 1 0 R.length) 1 R.length (F.map .bool) := Acc.buf hb (Heap.set_same _ _ _) (by simp [e, hml])
    refine a.fin (Heap.le_set (Heap.le_refl _) hb) ?_
    rw [olds_bools, e]; exact k
  rcases hv with ⟨rfl, rfl⟩ | ⟨rk, rfl, hrk⟩
  · try simp only [c44, r44_0, r44_1, r44_2, r44_3, r44_4, r44_5, r44_6, r44_7, r44_8, r44_9, r44_10, or_false, false_or, Bool.and_self, Bool.and_true, Bool.true_and, Bool.and_false, Bool.false_and, Bool.not_not, Int.cast_ofNat_Int, beq_self_eq_true, Heap.set_same, Heap.set_set, Heap.kill_kset, Int.toNat_natCast, Int.natCast_nonneg, Int.ofNat_lt, Int.ofNat_le, Int.natCast_inj, pmC, pmE, pmS, pmV, pmK, pmQ, pmL, pmX, pmF, pmO, pmA, pmR, pmW, pmB, Option.isSome_some, ft, olds_ints, olds_bools, ↓reduceIte, Nat.reduceEqDiff, reduceCtorEq, Nat.reduceAdd, Nat.reduceMul, Nat.reduceLeDiff, Nat.reduceLT, Int.reduceLE, Int.reduceLT, Int.reduceEq, Int.reduceToNat, Nat.zero_mul, Nat.zero_add, Nat.mul_one, ne_eq, not_false_eq_true, not_true_eq_false, true_and, and_true, decide_true, decide_false, Bool.not_true, Bool.not_false, Bool.false_eq_true, and_self, Nat.add_zero]
    refine ⟨by omega, fun b hb => ?_⟩
    refine pwp_fall (fun m σ h9 => h9 = h.set b [] ∧ σ 1 = .nils ∧ σ 7 = .buf b 1 0 0 ∧ σ 8 = .int .i64 0) 0 ⟨rfl, rfl, rfl, rfl⟩ ?_
    rintro m σ h9 K9 ⟨rfl, s1, s7, s8⟩ -
    try simp only [s1, s7, s8, or_false, false_or, Bool.and_self, Bool.and_true, Bool.true_and, Bool.and_false, Bool.false_and, Bool.not_not, Int.cast_ofNat_Int, beq_self_eq_true, Heap.set_same, Heap.set_set, Heap.kill_kset, Int.toNat_natCast, Int.natCast_nonneg, Int.ofNat_lt, Int.ofNat_le, Int.natCast_inj, pmC, pmE, pmS, pmV, pmK, pmQ, pmL, pmX, pmF, pmO, pmA, pmR, pmW, pmB, Option.isSome_some, ft, olds_ints, olds_bools, ↓reduceIte, Nat.reduceEqDiff, reduceCtorEq, Nat.reduceAdd, Nat.reduceMul, Nat.reduceLeDiff, Nat.reduceLT, Int.reduceLE, Int.reduceLT, Int.reduceEq, Int.reduceToNat, Nat.zero_mul, Nat.zero_add, Nat.mul_one, ne_eq, not_false_eq_true, not_true_eq_false, true_and, and_true, decide_true, decide_false, Bool.not_true, Bool.not_false, Bool.false_eq_true, and_self, Nat.add_zero]
    exact fin9 b hb [] rfl
  · try simp only [c44, r44_0, r44_1, r44_2, r44_3, r44_4, r44_5, r44_6, r44_7, r44_8, r44_9, r44_10, hrk, or_false, false_or, Bool.and_self, Bool.and_true, Bool.true_and, Bool.and_false, Bool.false_and, Bool.not_not, Int.cast_ofNat_Int, beq_self_eq_true, Heap.set_same, Heap.set_set, Heap.kill_kset, Int.toNat_natCast, Int.natCast_nonneg, Int.ofNat_lt, Int.ofNat_le, Int.natCast_inj, pmC, pmE, pmS, pmV, pmK, pmQ, pmL, pmX, pmF, pmO, pmA, pmR, pmW, pmB, Option.isSome_some, ft, olds_ints, olds_bools, ↓reduceIte, Nat.reduceEqDiff, reduceCtorEq, Nat.reduceAdd, Nat.reduceMul, Nat.reduceLeDiff, Nat.reduceLT, Int.reduceLE, Int.reduceLT, Int.reduceEq, Int.reduceToNat, Nat.zero_mul, Nat.zero_add, Nat.mul_one, ne_eq, not_false_eq_true, not_true_eq_false, true_and, and_true, decide_true, decide_false, Bool.not_true, Bool.not_false, Bool.false_eq_true, and_self, Nat.add_zero]
    refine ⟨by omega, by omega, by omega, fun b hb => ?_⟩
    have hne : rk ≠ b := fun e => by rw [e, hb] at hrk; cases hrk
    refine pwp_up R.length (fun i σ h' => ∃ P : List Bool, P.length = i ∧ mvd X R cls = P ++ flagF (isC cccT X cls) (stR X cls) false (R.drop i) ∧ h' = h.set b ((P ++ List.replicate (R.length - i) false).map .bool) ∧
      σ 0 = .list false 1 X.length (X.map (.int .i64)) ∧ σ 1 = .buf rk 1 0 R.length ∧ σ 2 = .int .i64 cls ∧ σ 7 = .buf b 1 0 R.length ∧ σ 8 = .int .i64 i) ?_ ?_
    · refine ⟨[], rfl, rfl, ?_, rfl, rfl, rfl, rfl, rfl⟩
      rw [rep_map PV.bool false]; simp
    rintro i σ h' K' hi ⟨P, hP, hM, rfl, s0, s1, s2, s7, s8⟩ next
    have hrk' : (h.set b ((P ++ List.replicate (R.length - i) false).map .bool)).f rk = some (R.map (.int .i64)) := by rw [Heap.set_ne _ _ hne]; exact hrk
    rcases Nat.lt_or_ge i R.length with hlt | hge
    · have hw : IntKind.i64.wrap ((i : Int) + 1) = (i : Int) + 1 := wrap_in (by omega) (by omega)
      have hx := getm (PV.int .i64) R (i := i) (by omega)
      have hok := okl _ (get_mem R hlt)
      rw [drop_getD R (by omega)] at hM
      generalize R.getD i default = p at *
      have hy := getm (PV.int .i64) X (i := p.toNat) (by have := hok.1; have := hok.2; omega)
      have p0 := hok.1
      have p1 := hok.2
      have hlen : i < ((P ++ List.replicate (R.length - i) false).map PV.bool).length := by simp [hP]; omega
      have hset : wr ((P ++ List.replicate (R.length - i) false).map PV.bool) i [.bool true] = ((P ++ [true]) ++ List.replicate (R.length - (i + 1)) false).map PV.bool := by
        have := set_mid P false true (R.length - i) (by omega)
        rw [hP] at this
        rw [wr_map PV.bool true _ (by simpa using hlen), this, show R.length - i - 1 = R.length - (i + 1) by omega]
      have hrep : List.replicate (R.length - i) false = false :: List.replicate (R.length - (i + 1)) false := by rw [← List.replicate_succ]; congr 1; omega
      by_cases q : isC cccT X cls p = true
      · have q' := q
        unfold isC at q'
        rw [flagF, show stR X cls p = (decide (cccT (X.getD p.toNat default) = cls) && (!decide (cls = 33) && !mvT (X.getD p.toNat default))) from rfl, q] at hM
        unfold isC at q
        have q3 : cccT (X.getD p.toNat default) = cls := by simpa using q
        generalize X.getD p.toNat default = c at *
        by_cases q1 : cls = 33
        · try simp only [s0, s1, s2, s7, s8, hlt, hx, hy, hrk', p0, p1, or_false, false_or, Bool.and_self, Bool.and_true, Bool.true_and, Bool.and_false, Bool.false_and, Bool.not_not, Int.cast_ofNat_Int, beq_self_eq_true, Heap.set_same, Heap.set_set, Heap.kill_kset, Int.toNat_natCast, Int.natCast_nonneg, Int.ofNat_lt, Int.ofNat_le, Int.natCast_inj, pmC, pmE, pmS, pmV, pmK, pmQ, pmL, pmX, pmF, pmO, pmA, pmR, pmW, pmB, Option.isSome_some, ft, olds_ints, olds_bools, ↓reduceIte, Nat.reduceEqDiff, reduceCtorEq, Nat.reduceAdd, Nat.reduceMul, Nat.reduceLeDiff, Nat.reduceLT, Int.reduceLE, Int.reduceLT, Int.reduceEq, Int.reduceToNat, Nat.zero_mul, Nat.zero_add, Nat.mul_one, ne_eq, not_false_eq_true, not_true_eq_false, true_and, and_true, decide_true, decide_false, Bool.not_true, Bool.not_false, Bool.false_eq_true, and_self, Nat.add_zero]
          refine OfR _ _ ?_
          try simp only [q3, s2, q1, s7, s8, hw, Heap.set_same, or_false, false_or, Bool.and_self, Bool.and_true, Bool.true_and, Bool.and_false, Bool.false_and, Bool.not_not, Int.cast_ofNat_Int, beq_self_eq_true, Heap.set_same, Heap.set_set, Heap.kill_kset, Int.toNat_natCast, Int.natCast_nonneg, Int.ofNat_lt, Int.ofNat_le, Int.natCast_inj, pmC, pmE, pmS, pmV, pmK, pmQ, pmL, pmX, pmF, pmO, pmA, pmR, pmW, pmB, Option.isSome_some, ft, olds_ints, olds_bools, ↓reduceIte, Nat.reduceEqDiff, reduceCtorEq, Nat.reduceAdd, Nat.reduceMul, Nat.reduceLeDiff, Nat.reduceLT, Int.reduceLE, Int.reduceLT, Int.reduceEq, Int.reduceToNat, Nat.zero_mul, Nat.zero_add, Nat.mul_one, ne_eq, not_false_eq_true, not_true_eq_false, true_and, and_true, decide_true, decide_false, Bool.not_true, Bool.not_false, Bool.false_eq_true, and_self, Nat.add_zero]
          refine ⟨hlt, hlen, next hlt _ _ ⟨P ++ [true], by simp [hP], ?_, by rw [hset], by simp [put, s0], by simp [put, s1], by simp [put, s2], by simp [put, s7], by simp [put]⟩⟩
          rw [hM]; simp [q1]
        · by_cases q2 : mvT c = true
          · try simp only [s0, s1, s2, s7, s8, hlt, hx, hy, hrk', p0, p1, or_false, false_or, Bool.and_self, Bool.and_true, Bool.true_and, Bool.and_false, Bool.false_and, Bool.not_not, Int.cast_ofNat_Int, beq_self_eq_true, Heap.set_same, Heap.set_set, Heap.kill_kset, Int.toNat_natCast, Int.natCast_nonneg, Int.ofNat_lt, Int.ofNat_le, Int.natCast_inj, pmC, pmE, pmS, pmV, pmK, pmQ, pmL, pmX, pmF, pmO, pmA, pmR, pmW, pmB, Option.isSome_some, ft, olds_ints, olds_bools, ↓reduceIte, Nat.reduceEqDiff, reduceCtorEq, Nat.reduceAdd, Nat.reduceMul, Nat.reduceLeDiff, Nat.reduceLT, Int.reduceLE, Int.reduceLT, Int.reduceEq, Int.reduceToNat, Nat.zero_mul, Nat.zero_add, Nat.mul_one, ne_eq, not_false_eq_true, not_true_eq_false, true_and, and_true, decide_true, decide_false, Bool.not_true, Bool.not_false, Bool.false_eq_true, and_self, Nat.add_zero]
            refine OfR _ _ ?_
            try simp only [q3, s2, q1, or_false, false_or, Bool.and_self, Bool.and_true, Bool.true_and, Bool.and_false, Bool.false_and, Bool.not_not, Int.cast_ofNat_Int, beq_self_eq_true, Heap.set_same, Heap.set_set, Heap.kill_kset, Int.toNat_natCast, Int.natCast_nonneg, Int.ofNat_lt, Int.ofNat_le, Int.natCast_inj, pmC, pmE, pmS, pmV, pmK, pmQ, pmL, pmX, pmF, pmO, pmA, pmR, pmW, pmB, Option.isSome_some, ft, olds_ints, olds_bools, ↓reduceIte, Nat.reduceEqDiff, reduceCtorEq, Nat.reduceAdd, Nat.reduceMul, Nat.reduceLeDiff, Nat.reduceLT, Int.reduceLE, Int.reduceLT, Int.reduceEq, Int.reduceToNat, Nat.zero_mul, Nat.zero_add, Nat.mul_one, ne_eq, not_false_eq_true, not_true_eq_false, true_and, and_true, decide_true, decide_false, Bool.not_true, Bool.not_false, Bool.false_eq_true, and_self, Nat.add_zero]
            refine MovableR _ _ ?_
            try simp only [q2, s7, s8, hw, Heap.set_same, or_false, false_or, Bool.and_self, Bool.and_true, Bool.true_and, Bool.and_false, Bool.false_and, Bool.not_not, Int.cast_ofNat_Int, beq_self_eq_true, Heap.set_same, Heap.set_set, Heap.kill_kset, Int.toNat_natCast, Int.natCast_nonneg, Int.ofNat_lt, Int.ofNat_le, Int.natCast_inj, pmC, pmE, pmS, pmV, pmK, pmQ, pmL, pmX, pmF, pmO, pmA, pmR, pmW, pmB, Option.isSome_some, ft, olds_ints, olds_bools, ↓reduceIte, Nat.reduceEqDiff, reduceCtorEq, Nat.reduceAdd, Nat.reduceMul, Nat.reduceLeDiff, Nat.reduceLT, Int.reduceLE, Int.reduceLT, Int.reduceEq, Int.reduceToNat, Nat.zero_mul, Nat.zero_add, Nat.mul_one, ne_eq, not_false_eq_true, not_true_eq_false, true_and, and_true, decide_true, decide_false, Bool.not_true, Bool.not_false, Bool.false_eq_true, and_self, Nat.add_zero]
            refine ⟨hlt, hlen, next hlt _ _ ⟨P ++ [true], by simp [hP], ?_, by rw [hset], by simp [put, s0], by simp [put, s1], by simp [put, s2], by simp [put, s7], by simp [put]⟩⟩
            rw [hM]; simp [q1, q2, q3]
          · rw [Bool.not_eq_true] at q2
            try simp only [s0, s1, s2, s7, s8, hlt, hx, hy, hrk', p0, p1, or_false, false_or, Bool.and_self, Bool.and_true, Bool.true_and, Bool.and_false, Bool.false_and, Bool.not_not, Int.cast_ofNat_Int, beq_self_eq_true, Heap.set_same, Heap.set_set, Heap.kill_kset, Int.toNat_natCast, Int.natCast_nonneg, Int.ofNat_lt, Int.ofNat_le, Int.natCast_inj, pmC, pmE, pmS, pmV, pmK, pmQ, pmL, pmX, pmF, pmO, pmA, pmR, pmW, pmB, Option.isSome_some, ft, olds_ints, olds_bools, ↓reduceIte, Nat.reduceEqDiff, reduceCtorEq, Nat.reduceAdd, Nat.reduceMul, Nat.reduceLeDiff, Nat.reduceLT, Int.reduceLE, Int.reduceLT, Int.reduceEq, Int.reduceToNat, Nat.zero_mul, Nat.zero_add, Nat.mul_one, ne_eq, not_false_eq_true, not_true_eq_false, true_and, and_true, decide_true, decide_false, Bool.not_true, Bool.not_false, Bool.false_eq_true, and_self, Nat.add_zero]
            refine OfR _ _ ?_
            try simp only [q3, s2, q1, or_false, false_or, Bool.and_self, Bool.and_true, Bool.true_and, Bool.and_false, Bool.false_and, Bool.not_not, Int.cast_ofNat_Int, beq_self_eq_true, Heap.set_same, Heap.set_set, Heap.kill_kset, Int.toNat_natCast, Int.natCast_nonneg, Int.ofNat_lt, Int.ofNat_le, Int.natCast_inj, pmC, pmE, pmS, pmV, pmK, pmQ, pmL, pmX, pmF, pmO, pmA, pmR, pmW, pmB, Option.isSome_some, ft, olds_ints, olds_bools, ↓reduceIte, Nat.reduceEqDiff, reduceCtorEq, Nat.reduceAdd, Nat.reduceMul, Nat.reduceLeDiff, Nat.reduceLT, Int.reduceLE, Int.reduceLT, Int.reduceEq, Int.reduceToNat, Nat.zero_mul, Nat.zero_add, Nat.mul_one, ne_eq, not_false_eq_true, not_true_eq_false, true_and, and_true, decide_true, decide_false, Bool.not_true, Bool.not_false, Bool.false_eq_true, and_self, Nat.add_zero]
            refine MovableR _ _ ?_
            try simp only [q2, s7, or_false, false_or, Bool.and_self, Bool.and_true, Bool.true_and, Bool.and_false, Bool.false_and, Bool.not_not, Int.cast_ofNat_Int, beq_self_eq_true, Heap.set_same, Heap.set_set, Heap.kill_kset, Int.toNat_natCast, Int.natCast_nonneg, Int.ofNat_lt, Int.ofNat_le, Int.natCast_inj, pmC, pmE, pmS, pmV, pmK, pmQ, pmL, pmX, pmF, pmO, pmA, pmR, pmW, pmB, Option.isSome_some, ft, olds_ints, olds_bools, ↓reduceIte, Nat.reduceEqDiff, reduceCtorEq, Nat.reduceAdd, Nat.reduceMul, Nat.reduceLeDiff, Nat.reduceLT, Int.reduceLE, Int.reduceLT, Int.reduceEq, Int.reduceToNat, Nat.zero_mul, Nat.zero_add, Nat.mul_one, ne_eq, not_false_eq_true, not_true_eq_false, true_and, and_true, decide_true, decide_false, Bool.not_true, Bool.not_false, Bool.false_eq_true, and_self, Nat.add_zero]
            refine fin9 b hb _ ?_
            rw [hM, hrep]; simp [q1, q2, q3, flagF_t]
      · rw [Bool.not_eq_true] at q
        rw [flagF, show stR X cls p = (decide (cccT (X.getD p.toNat default) = cls) && (!decide (cls = 33) && !mvT (X.getD p.toNat default))) from rfl, q] at hM
        unfold isC at q
        have q3 : ¬ cccT (X.getD p.toNat default) = cls := by simpa using q
        generalize X.getD p.toNat default = c at *
        try simp only [s0, s1, s2, s7, s8, hlt, hx, hy, hrk', p0, p1, or_false, false_or, Bool.and_self, Bool.and_true, Bool.true_and, Bool.and_false, Bool.false_and, Bool.not_not, Int.cast_ofNat_Int, beq_self_eq_true, Heap.set_same, Heap.set_set, Heap.kill_kset, Int.toNat_natCast, Int.natCast_nonneg, Int.ofNat_lt, Int.ofNat_le, Int.natCast_inj, pmC, pmE, pmS, pmV, pmK, pmQ, pmL, pmX, pmF, pmO, pmA, pmR, pmW, pmB, Option.isSome_some, ft, olds_ints, olds_bools, ↓reduceIte, Nat.reduceEqDiff, reduceCtorEq, Nat.reduceAdd, Nat.reduceMul, Nat.reduceLeDiff, Nat.reduceLT, Int.reduceLE, Int.reduceLT, Int.reduceEq, Int.reduceToNat, Nat.zero_mul, Nat.zero_add, Nat.mul_one, ne_eq, not_false_eq_true, not_true_eq_false, true_and, and_true, decide_true, decide_false, Bool.not_true, Bool.not_false, Bool.false_eq_true, and_self, Nat.add_zero]
        refine OfR _ _ ?_
        try simp only [q3, s2, s8, hw, or_false, false_or, Bool.and_self, Bool.and_true, Bool.true_and, Bool.and_false, Bool.false_and, Bool.not_not, Int.cast_ofNat_Int, beq_self_eq_true, Heap.set_same, Heap.set_set, Heap.kill_kset, Int.toNat_natCast, Int.natCast_nonneg, Int.ofNat_lt, Int.ofNat_le, Int.natCast_inj, pmC, pmE, pmS, pmV, pmK, pmQ, pmL, pmX, pmF, pmO, pmA, pmR, pmW, pmB, Option.isSome_some, ft, olds_ints, olds_bools, ↓reduceIte, Nat.reduceEqDiff, reduceCtorEq, Nat.reduceAdd, Nat.reduceMul, Nat.reduceLeDiff, Nat.reduceLT, Int.reduceLE, Int.reduceLT, Int.reduceEq, Int.reduceToNat, Nat.zero_mul, Nat.zero_add, Nat.mul_one, ne_eq, not_false_eq_true, not_true_eq_false, true_and, and_true, decide_true, decide_false, Bool.not_true, Bool.not_false, Bool.false_eq_true, and_self, Nat.add_zero]
        refine next hlt _ _ ⟨P ++ [false], by simp [hP], ?_, by rw [hrep]; simp, by simp [put, s0], by simp [put, s1], by simp [put, s2], by simp [put, s7], by simp [put]⟩
        rw [hM]; simp [q3]
    · have e : i = R.length := by omega
      subst e
      have hnl := Nat.lt_irrefl R.length
      try simp only [s1, s7, s8, hnl, hrk', or_false, false_or, Bool.and_self, Bool.and_true, Bool.true_and, Bool.and_false, Bool.false_and, Bool.not_not, Int.cast_ofNat_Int, beq_self_eq_true, Heap.set_same, Heap.set_set, Heap.kill_kset, Int.toNat_natCast, Int.natCast_nonneg, Int.ofNat_lt, Int.ofNat_le, Int.natCast_inj, pmC, pmE, pmS, pmV, pmK, pmQ, pmL, pmX, pmF, pmO, pmA, pmR, pmW, pmB, Option.isSome_some, ft, olds_ints, olds_bools, ↓reduceIte, Nat.reduceEqDiff, reduceCtorEq, Nat.reduceAdd, Nat.reduceMul, Nat.reduceLeDiff, Nat.reduceLT, Int.reduceLE, Int.reduceLT, Int.reduceEq, Int.reduceToNat, Nat.zero_mul, Nat.zero_add, Nat.mul_one, ne_eq, not_false_eq_true, not_true_eq_false, true_and, and_true, decide_true, decide_false, Bool.not_true, Bool.not_false, Bool.false_eq_true, and_self, Nat.add_zero]
      refine fin9 b hb _ ?_
      rw [hM, List.drop_length, Nat.sub_self]; rfl
/-- Which pass takes it. -/
def selB : Nat → Bool × Bool × Bool → Bool
  | 0, z => z.1
  | 1, z => z.2.1
  | 2, z => z.2.2
  | _, z => !z.1 && !z.2.1 && !z.2.2
def zrow (X R : List Int) : List (Int × Bool × Bool × Bool) := R.zip ((mvd X R 33).zip ((mvd X R 230).zip (mvd X R 220)))
def passL (Z : List (Int × Bool × Bool × Bool)) (k : Nat) : List Int := (Z.filter fun z => selB k z.2).map (·.1)
/-- What the first k passes take. -/
def passes (Z : List (Int × Bool × Bool × Bool)) : Nat → List Int
  | 0 => []
  | k + 1 => passes Z k ++ passL Z k
theorem zrow_len (X R : List Int) : (zrow X R).length = R.length := by simp [zrow, mvd_len]
theorem zrow_at (X R : List Int) {i : Nat} (h : i < R.length) : (zrow X R).getD i default = (R.getD i default, (mvd X R 33).getD i default, (mvd X R 230).getD i default, (mvd X R 220).getD i default) := by
  have h1 : i < (mvd X R 33).length := by rw [mvd_len]; exact h
  have h2 : i < (mvd X R 230).length := by rw [mvd_len]; exact h
  have h3 : i < (mvd X R 220).length := by rw [mvd_len]; exact h
  have h0 : i < (zrow X R).length := by rw [zrow_len]; exact h
  simp only [List.getD, List.getElem?_eq_getElem h, List.getElem?_eq_getElem h1, List.getElem?_eq_getElem h2, List.getElem?_eq_getElem h3, List.getElem?_eq_getElem h0, Option.getD_some]
  simp [zrow]
theorem passL_take (Z : List (Int × Bool × Bool × Bool)) (k : Nat) {i : Nat} (h : i < Z.length) : passL (Z.take (i + 1)) k = passL (Z.take i) k ++ if selB k (Z.getD i default).2 then [(Z.getD i default).1] else [] := by
  have e : Z.take (i + 1) = Z.take i ++ [Z.getD i default] := by
    rw [List.take_add_one, List.getElem?_eq_getElem h, List.getD, List.getElem?_eq_getElem h]; rfl
  unfold passL
  rw [e, List.filter_append, List.map_append]
  congr 1
  generalize Z.getD i default = z
  cases q : selB k z.2 <;> simp only [List.filter_cons, q] <;> rfl
theorem passL_le (Z : List (Int × Bool × Bool × Bool)) (k : Nat) : (passL Z k).length ≤ Z.length := by
  unfold passL
  rw [List.length_map]; exact List.length_filter_le _ _
theorem passes_le (Z : List (Int × Bool × Bool × Bool)) : ∀ k, (passes Z k).length ≤ k * Z.length
  | 0 => by simp [passes]
  | k + 1 => by
    have h1 := passes_le Z k
    have h2 := passL_le Z k
    rw [passes, List.length_append, Nat.add_mul]; omega
theorem putR (fr : Bool) (X : List Int) (v : PV) (R : List Int) (hl : R.length ≤ 1000000) (okl : ∀ x ∈ R, okP X x) (h : Heap) (hv : (v = .nils ∧ R = []) ∨ ∃ rk, v = .buf rk 1 0 R.length ∧ h.f rk = some (R.map (.int .i64)))
    {K : PV → Heap → Prop} (k : K (.list true 1 (passes (zrow X R) 4).length ((passes (zrow X R) 4).map (.int .i64))) h) :
    CanP Try.prog 28 [.list fr 1 X.length (X.map (.int .i64)), v] h K := by
  refine e28 rfl ?_
  have hvo : v.old = v := by rcases hv with ⟨rfl, _⟩ | ⟨b, rfl, _⟩ <;> rfl
  try simp only [c28, r28_0, r28_1, r28_2, r28_3, r28_4, r28_5, r28_6, r28_7, r28_8, r28_9, r28_10, r28_11, r28_12, hvo, or_false, false_or, Bool.and_self, Bool.and_true, Bool.true_and, Bool.and_false, Bool.false_and, Bool.not_not, Int.cast_ofNat_Int, beq_self_eq_true, Heap.set_same, Heap.set_set, Heap.kill_kset, Int.toNat_natCast, Int.natCast_nonneg, Int.ofNat_lt, Int.ofNat_le, Int.natCast_inj, pmC, pmE, pmS, pmV, pmK, pmQ, pmL, pmX, pmF, pmO, pmA, pmR, pmW, pmB, Option.isSome_some, ft, olds_ints, olds_bools, ↓reduceIte, Nat.reduceEqDiff, reduceCtorEq, Nat.reduceAdd, Nat.reduceMul, Nat.reduceLeDiff, Nat.reduceLT, Int.reduceLE, Int.reduceLT, Int.reduceEq, Int.reduceToNat, Nat.zero_mul, Nat.zero_add, Nat.mul_one, ne_eq, not_false_eq_true, not_true_eq_false, true_and, and_true, decide_true, decide_false, Bool.not_true, Bool.not_false, Bool.false_eq_true, and_self, Nat.add_zero]
  refine movedR false X v R hl okl 33 _ hv ?_
  try simp only [or_false, false_or, Bool.and_self, Bool.and_true, Bool.true_and, Bool.and_false, Bool.false_and, Bool.not_not, Int.cast_ofNat_Int, beq_self_eq_true, Heap.set_same, Heap.set_set, Heap.kill_kset, Int.toNat_natCast, Int.natCast_nonneg, Int.ofNat_lt, Int.ofNat_le, Int.natCast_inj, pmC, pmE, pmS, pmV, pmK, pmQ, pmL, pmX, pmF, pmO, pmA, pmR, pmW, pmB, Option.isSome_some, ft, olds_ints, olds_bools, ↓reduceIte, Nat.reduceEqDiff, reduceCtorEq, Nat.reduceAdd, Nat.reduceMul, Nat.reduceLeDiff, Nat.reduceLT, Int.reduceLE, Int.reduceLT, Int.reduceEq, Int.reduceToNat, Nat.zero_mul, Nat.zero_add, Nat.mul_one, ne_eq, not_false_eq_true, not_true_eq_false, true_and, and_true, decide_true, decide_false, Bool.not_true, Bool.not_false, Bool.false_eq_true, and_self, Nat.add_zero]
  refine movedR false X v R hl okl 230 _ hv ?_
  try simp only [or_false, false_or, Bool.and_self, Bool.and_true, Bool.true_and, Bool.and_false, Bool.false_and, Bool.not_not, Int.cast_ofNat_Int, beq_self_eq_true, Heap.set_same, Heap.set_set, Heap.kill_kset, Int.toNat_natCast, Int.natCast_nonneg, Int.ofNat_lt, Int.ofNat_le, Int.natCast_inj, pmC, pmE, pmS, pmV, pmK, pmQ, pmL, pmX, pmF, pmO, pmA, pmR, pmW, pmB, Option.isSome_some, ft, olds_ints, olds_bools, ↓reduceIte, Nat.reduceEqDiff, reduceCtorEq, Nat.reduceAdd, Nat.reduceMul, Nat.reduceLeDiff, Nat.reduceLT, Int.reduceLE, Int.reduceLT, Int.reduceEq, Int.reduceToNat, Nat.zero_mul, Nat.zero_add, Nat.mul_one, ne_eq, not_false_eq_true, not_true_eq_false, true_and, and_true, decide_true, decide_false, Bool.not_true, Bool.not_false, Bool.false_eq_true, and_self, Nat.add_zero]
  refine movedR false X v R hl okl 220 _ hv ?_
  try simp only [or_false, false_or, Bool.and_self, Bool.and_true, Bool.true_and, Bool.and_false, Bool.false_and, Bool.not_not, Int.cast_ofNat_Int, beq_self_eq_true, Heap.set_same, Heap.set_set, Heap.kill_kset, Int.toNat_natCast, Int.natCast_nonneg, Int.ofNat_lt, Int.ofNat_le, Int.natCast_inj, pmC, pmE, pmS, pmV, pmK, pmQ, pmL, pmX, pmF, pmO, pmA, pmR, pmW, pmB, Option.isSome_some, ft, olds_ints, olds_bools, ↓reduceIte, Nat.reduceEqDiff, reduceCtorEq, Nat.reduceAdd, Nat.reduceMul, Nat.reduceLeDiff, Nat.reduceLT, Int.reduceLE, Int.reduceLT, Int.reduceEq, Int.reduceToNat, Nat.zero_mul, Nat.zero_add, Nat.mul_one, ne_eq, not_false_eq_true, not_true_eq_false, true_and, and_true, decide_true, decide_false, Bool.not_true, Bool.not_false, Bool.false_eq_true, and_self, Nat.add_zero]
  have hzl := zrow_len X R
  refine pwp_up 4 (fun p σ h' => Acc h h' (σ 8) 1 (passes (zrow X R) p).length ((passes (zrow X R) p).map (.int .i64)) ∧ h.le h' ∧ σ 1 = v ∧
      σ 5 = .list true 1 R.length ((mvd X R 33).map .bool) ∧ σ 6 = .list true 1 R.length ((mvd X R 230).map .bool) ∧ σ 7 = .list true 1 R.length ((mvd X R 220).map .bool) ∧ σ 9 = .int .i64 p) ?_ ?_
  · exact ⟨Acc.nil _ _ _, Heap.le_refl _, rfl, rfl, rfl, rfl, rfl⟩
  rintro p σ h' K' hp4 ⟨a, lh, s1, s5, s6, s7, s9⟩ next
  rcases Nat.lt_or_ge p 4 with hlt | hge
  · have hlt4 : (p : Int) < 4 := by omega
    try simp only [s9, hlt4, or_false, false_or, Bool.and_self, Bool.and_true, Bool.true_and, Bool.and_false, Bool.false_and, Bool.not_not, Int.cast_ofNat_Int, beq_self_eq_true, Heap.set_same, Heap.set_set, Heap.kill_kset, Int.toNat_natCast, Int.natCast_nonneg, Int.ofNat_lt, Int.ofNat_le, Int.natCast_inj, pmC, pmE, pmS, pmV, pmK, pmQ, pmL, pmX, pmF, pmO, pmA, pmR, pmW, pmB, Option.isSome_some, ft, olds_ints, olds_bools, ↓reduceIte, Nat.reduceEqDiff, reduceCtorEq, Nat.reduceAdd, Nat.reduceMul, Nat.reduceLeDiff, Nat.reduceLT, Int.reduceLE, Int.reduceLT, Int.reduceEq, Int.reduceToNat, Nat.zero_mul, Nat.zero_add, Nat.mul_one, ne_eq, not_false_eq_true, not_true_eq_false, true_and, and_true, decide_true, decide_false, Bool.not_true, Bool.not_false, Bool.false_eq_true, and_self, Nat.add_zero]
    refine pwp_up R.length (fun i σ h' => Acc h h' (σ 8) 1 (passes (zrow X R) p ++ passL ((zrow X R).take i) p).length ((passes (zrow X R) p ++ passL ((zrow X R).take i) p).map (.int .i64)) ∧ h.le h' ∧ σ 1 = v ∧
      σ 5 = .list true 1 R.length ((mvd X R 33).map .bool) ∧ σ 6 = .list true 1 R.length ((mvd X R 230).map .bool) ∧ σ 7 = .list true 1 R.length ((mvd X R 220).map .bool) ∧ σ 9 = .int .i64 p ∧ σ 10 = .int .i64 i) ?_ ?_
    · exact ⟨by simpa [passL, put] using a, lh, by simp [put, s1], by simp [put, s5], by simp [put, s6], by simp [put, s7], by simp [put, s9], rfl⟩
    rintro i σ h' K' hi ⟨a, lh, s1, s5, s6, s7, s9, s10⟩ next2
    rcases Nat.lt_or_ge i R.length with hlt2 | hge2
    · obtain ⟨rk, rfl, hrk⟩ := hv.resolve_left fun e => by rw [e.2] at hlt2; simp at hlt2
      have hrk' := lh _ _ hrk
      have hw : IntKind.i64.wrap ((i : Int) + 1) = (i : Int) + 1 := wrap_in (by omega) (by omega)
      have hx := getm (PV.int .i64) R (i := i) (by omega)
      have ha := getm PV.bool (mvd X R 33) (i := i) (by rw [mvd_len]; omega)
      have hb := getm PV.bool (mvd X R 230) (i := i) (by rw [mvd_len]; omega)
      have hc := getm PV.bool (mvd X R 220) (i := i) (by rw [mvd_len]; omega)
      have hn := passL_take (zrow X R) p (i := i) (by omega)
      have hb1 := passes_le (zrow X R) p
      have hb2 := passL_le ((zrow X R).take i) p
      have hb3 : p * (zrow X R).length ≤ 3 * (zrow X R).length := Nat.mul_le_mul_right _ (by omega)
      rw [List.length_take] at hb2
      rw [zrow_at X R hlt2] at hn
      simp only [] at hn
      generalize R.getD i default = c at *
      generalize (mvd X R 33).getD i default = f1 at *
      generalize (mvd X R 230).getD i default = f2 at *
      generalize (mvd X R 220).getD i default = f3 at *
      have hp : p = 0 ∨ p = 1 ∨ p = 2 ∨ p = 3 := by omega
      have skip9 : selB p (f1, f2, f3) = false → ∀ σ' : Sl, σ' 8 = σ 8 → σ' 1 = σ 1 → σ' 5 = σ 5 → σ' 6 = σ 6 → σ' 7 = σ 7 → σ' 9 = σ 9 → σ' 10 = .int .i64 ((i : Int) + 1) → K' σ' h' := by
        intro e σ' q8 q1 q5 q6 q7 q9 q10
        refine next2 hlt2 _ _ ⟨?_, lh, by rw [q1, s1], by rw [q5, s5], by rw [q6, s6], by rw [q7, s7], by rw [q9, s9], by rw [q10]; rfl⟩
        rw [hn, e, q8]; simpa using a
      have app9 : selB p (f1, f2, f3) = true → ∀ (K4 : Kt), (∀ v' h4, Acc h h4 v' 1 (passes (zrow X R) p ++ passL ((zrow X R).take (i + 1)) p).length ((passes (zrow X R) p ++ passL ((zrow X R).take (i + 1)) p).map (.int .i64)) → h.le h4 → K4 v' h4) → ap2K (some (1, [.int .i64 c])) 1 8 (σ 8) K4 h' := by
        intro e K4 k4
        refine a.app lh (by decide) rfl (by rw [List.length_append]; omega) (by simp only [maxLen]; rw [List.length_append]; omega) fun v' h4 a4 l4 sd => ?_
        refine k4 v' h4 ?_ l4
        rw [hn, e]
        simpa [Nat.add_assoc] using a4
      rcases hp with rfl | rfl | rfl | rfl <;> cases f1 <;> cases f2 <;> cases f3 <;> (
        try simp only [s1, s5, s6, s7, s9, s10, hlt2, hx, ha, hb, hc, hrk', hw, or_false, false_or, Bool.and_self, Bool.and_true, Bool.true_and, Bool.and_false, Bool.false_and, Bool.not_not, Int.cast_ofNat_Int, beq_self_eq_true, Heap.set_same, Heap.set_set, Heap.kill_kset, Int.toNat_natCast, Int.natCast_nonneg, Int.ofNat_lt, Int.ofNat_le, Int.natCast_inj, pmC, pmE, pmS, pmV, pmK, pmQ, pmL, pmX, pmF, pmO, pmA, pmR, pmW, pmB, Option.isSome_some, ft, olds_ints, olds_bools, ↓reduceIte, Nat.reduceEqDiff, reduceCtorEq, Nat.reduceAdd, Nat.reduceMul, Nat.reduceLeDiff, Nat.reduceLT, Int.reduceLE, Int.reduceLT, Int.reduceEq, Int.reduceToNat, Nat.zero_mul, Nat.zero_add, Nat.mul_one, ne_eq, not_false_eq_true, not_true_eq_false, true_and, and_true, decide_true, decide_false, Bool.not_true, Bool.not_false, Bool.false_eq_true, and_self, Nat.add_zero]
        first
          | exact skip9 rfl _ (by simp [put]) (by simp [put, s1]) (by simp [put, s5]) (by simp [put, s6]) (by simp [put, s7]) (by simp [put, s9]) (by simp [put])
          | (refine app9 rfl _ fun v' h4 a4 l4 => ?_
             try simp only [s10, hw, or_false, false_or, Bool.and_self, Bool.and_true, Bool.true_and, Bool.and_false, Bool.false_and, Bool.not_not, Int.cast_ofNat_Int, beq_self_eq_true, Heap.set_same, Heap.set_set, Heap.kill_kset, Int.toNat_natCast, Int.natCast_nonneg, Int.ofNat_lt, Int.ofNat_le, Int.natCast_inj, pmC, pmE, pmS, pmV, pmK, pmQ, pmL, pmX, pmF, pmO, pmA, pmR, pmW, pmB, Option.isSome_some, ft, olds_ints, olds_bools, ↓reduceIte, Nat.reduceEqDiff, reduceCtorEq, Nat.reduceAdd, Nat.reduceMul, Nat.reduceLeDiff, Nat.reduceLT, Int.reduceLE, Int.reduceLT, Int.reduceEq, Int.reduceToNat, Nat.zero_mul, Nat.zero_add, Nat.mul_one, ne_eq, not_false_eq_true, not_true_eq_false, true_and, and_true, decide_true, decide_false, Bool.not_true, Bool.not_false, Bool.false_eq_true, and_self, Nat.add_zero]
             exact next2 hlt2 _ _ ⟨by simpa [put] using a4, l4, by simp [put, s1], by simp [put, s5], by simp [put, s6], by simp [put, s7], by simp [put, s9], by simp [put]⟩))
    · have e : i = R.length := by omega
      subst e
      have hnl := Nat.lt_irrefl R.length
      rw [List.take_of_length_le (by omega)] at a
      have hw4 : IntKind.i64.wrap ((p : Int) + 1) = (p : Int) + 1 := wrap_in (by omega) (by omega)
      rcases hv with ⟨rfl, rfl⟩ | ⟨rk, rfl, hrk⟩
      · try simp only [s1, s9, s10, hw4, or_false, false_or, Bool.and_self, Bool.and_true, Bool.true_and, Bool.and_false, Bool.false_and, Bool.not_not, Int.cast_ofNat_Int, beq_self_eq_true, Heap.set_same, Heap.set_set, Heap.kill_kset, Int.toNat_natCast, Int.natCast_nonneg, Int.ofNat_lt, Int.ofNat_le, Int.natCast_inj, pmC, pmE, pmS, pmV, pmK, pmQ, pmL, pmX, pmF, pmO, pmA, pmR, pmW, pmB, Option.isSome_some, ft, olds_ints, olds_bools, ↓reduceIte, Nat.reduceEqDiff, reduceCtorEq, Nat.reduceAdd, Nat.reduceMul, Nat.reduceLeDiff, Nat.reduceLT, Int.reduceLE, Int.reduceLT, Int.reduceEq, Int.reduceToNat, Nat.zero_mul, Nat.zero_add, Nat.mul_one, ne_eq, not_false_eq_true, not_true_eq_false, true_and, and_true, decide_true, decide_false, Bool.not_true, Bool.not_false, Bool.false_eq_true, and_self, Nat.add_zero]
        exact next hlt _ _ ⟨by simpa [put, passes] using a, lh, by simp [put, s1], by simp [put, s5], by simp [put, s6], by simp [put, s7], by simp [put]⟩
      · have hrk' := lh _ _ hrk
        try simp only [s1, s9, s10, hnl, hrk', hw4, or_false, false_or, Bool.and_self, Bool.and_true, Bool.true_and, Bool.and_false, Bool.false_and, Bool.not_not, Int.cast_ofNat_Int, beq_self_eq_true, Heap.set_same, Heap.set_set, Heap.kill_kset, Int.toNat_natCast, Int.natCast_nonneg, Int.ofNat_lt, Int.ofNat_le, Int.natCast_inj, pmC, pmE, pmS, pmV, pmK, pmQ, pmL, pmX, pmF, pmO, pmA, pmR, pmW, pmB, Option.isSome_some, ft, olds_ints, olds_bools, ↓reduceIte, Nat.reduceEqDiff, reduceCtorEq, Nat.reduceAdd, Nat.reduceMul, Nat.reduceLeDiff, Nat.reduceLT, Int.reduceLE, Int.reduceLT, Int.reduceEq, Int.reduceToNat, Nat.zero_mul, Nat.zero_add, Nat.mul_one, ne_eq, not_false_eq_true, not_true_eq_false, true_and, and_true, decide_true, decide_false, Bool.not_true, Bool.not_false, Bool.false_eq_true, and_self, Nat.add_zero]
        exact next hlt _ _ ⟨by simpa [put, passes] using a, lh, by simp [put, s1], by simp [put, s5], by simp [put, s6], by simp [put, s7], by simp [put]⟩
  · have e : p = 4 := by omega
    subst e
    try simp only [s9, or_false, false_or, Bool.and_self, Bool.and_true, Bool.true_and, Bool.and_false, Bool.false_and, Bool.not_not, Int.cast_ofNat_Int, beq_self_eq_true, Heap.set_same, Heap.set_set, Heap.kill_kset, Int.toNat_natCast, Int.natCast_nonneg, Int.ofNat_lt, Int.ofNat_le, Int.natCast_inj, pmC, pmE, pmS, pmV, pmK, pmQ, pmL, pmX, pmF, pmO, pmA, pmR, pmW, pmB, Option.isSome_some, ft, olds_ints, olds_bools, ↓reduceIte, Nat.reduceEqDiff, reduceCtorEq, Nat.reduceAdd, Nat.reduceMul, Nat.reduceLeDiff, Nat.reduceLT, Int.reduceLE, Int.reduceLT, Int.reduceEq, Int.reduceToNat, Nat.zero_mul, Nat.zero_add, Nat.mul_one, ne_eq, not_false_eq_true, not_true_eq_false, true_and, and_true, decide_true, decide_false, Bool.not_true, Bool.not_false, Bool.false_eq_true, and_self, Nat.add_zero]
    refine a.fin lh ?_
    rw [olds_ints]; exact k
end Go.Proofs.Ytnalkkailafklaa
