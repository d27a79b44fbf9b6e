/-
  Whether two live rows of whole numbers are alike (slices.Equal), where they are.
  Conditions: a row of at most a thousand million.
-/
import Derived.Test.YtnalkkailafklaaIntsEq
import Derived.Test.YtnalkkailafklaaIntsClone
import Derived.Test.YtnalkkailafklaaLsort
namespace Go.Proofs.Ytnalkkailafklaa
open Go.Pm
set_option maxRecDepth 100000
set_option linter.unusedSimpArgs false
set_option linter.unusedVariables false

theorem EqualB (a : List Int) (p q n : Nat) (hn : a.length = n) (hl : n ≤ 1000000000) (h : Heap) (hp : h.f p = some (a.map (.int .i64))) (hq : h.f q = some (a.map (.int .i64))) {K : PV → Heap → Prop} (k : K (.bool true) h) :
    CanP Try.prog 9 [.buf p 1 0 n, .buf q 1 0 n] h K := by
  subst hn
  refine e9 rfl ?_
  try simp only [c9, r9_0, r9_1, r9_2, r9_3, r9_4, r9_5, r9_6, r9_7, r9_8, r9_9, hp, hq, or_false, false_or, Bool.and_self, Bool.and_true, Bool.true_and, Bool.and_false, Bool.false_and, Bool.not_not, Int.cast_ofNat_Int, beq_self_eq_true, Heap.set_same, Heap.set_set, Heap.kill_kset, Int.toNat_natCast, Int.natCast_nonneg, Int.ofNat_lt, Int.ofNat_le, Int.natCast_inj, pmC, pmE, pmS, pmV, pmK, pmQ, pmL, pmX, pmF, pmO, pmA, pmR, pmW, pmB, Option.isSome_some, ft, olds_ints, olds_bools, ↓reduceIte, Nat.reduceEqDiff, reduceCtorEq, Nat.reduceAdd, Nat.reduceMul, Nat.reduceLeDiff, Nat.reduceLT, Int.reduceLE, Int.reduceLT, Int.reduceEq, Int.reduceToNat, Nat.zero_mul, Nat.zero_add, Nat.mul_one, ne_eq, not_false_eq_true, not_true_eq_false, true_and, and_true, decide_true, decide_false, Bool.not_true, Bool.not_false, Bool.false_eq_true, and_self, Nat.add_zero]
  refine pwp_up a.length (fun i σ h' => h' = h ∧ σ 0 = .buf p 1 0 a.length ∧ σ 1 = .buf q 1 0 a.length ∧ σ 12 = .int .i64 a.length ∧ σ 13 = .int .i64 i) ?_ ?_
  · exact ⟨rfl, rfl, rfl, rfl, rfl⟩
  rintro i σ h' K' hi' ⟨rfl, s0, s1, s12, s13⟩ next
  rcases Nat.lt_or_ge i a.length with hlt | hge
  · have hx := getm (.int .i64) a hlt
    have hw : IntKind.i64.wrap ((i : Int) + 1) = (i : Int) + 1 := wrap_in (by omega) (by omega)
    generalize a.getD i default = x at *
    try simp only [hx, hlt, hp, hq, s0, s1, s12, s13, hw, or_false, false_or, Bool.and_self, Bool.and_true, Bool.true_and, Bool.and_false, Bool.false_and, Bool.not_not, Int.cast_ofNat_Int, beq_self_eq_true, Heap.set_same, Heap.set_set, Heap.kill_kset, Int.toNat_natCast, Int.natCast_nonneg, Int.ofNat_lt, Int.ofNat_le, Int.natCast_inj, pmC, pmE, pmS, pmV, pmK, pmQ, pmL, pmX, pmF, pmO, pmA, pmR, pmW, pmB, Option.isSome_some, ft, olds_ints, olds_bools, ↓reduceIte, Nat.reduceEqDiff, reduceCtorEq, Nat.reduceAdd, Nat.reduceMul, Nat.reduceLeDiff, Nat.reduceLT, Int.reduceLE, Int.reduceLT, Int.reduceEq, Int.reduceToNat, Nat.zero_mul, Nat.zero_add, Nat.mul_one, ne_eq, not_false_eq_true, not_true_eq_false, true_and, and_true, decide_true, decide_false, Bool.not_true, Bool.not_false, Bool.false_eq_true, and_self, Nat.add_zero]
    exact next hlt _ _ ⟨rfl, by simp [put, s0], by simp [put, s1], by simp [put, s12], by simp [put]⟩
  · have e : i = a.length := by omega
    subst e
    have hnl := Nat.lt_irrefl a.length
    try simp only [s0, s12, s13, hnl, or_false, false_or, Bool.and_self, Bool.and_true, Bool.true_and, Bool.and_false, Bool.false_and, Bool.not_not, Int.cast_ofNat_Int, beq_self_eq_true, Heap.set_same, Heap.set_set, Heap.kill_kset, Int.toNat_natCast, Int.natCast_nonneg, Int.ofNat_lt, Int.ofNat_le, Int.natCast_inj, pmC, pmE, pmS, pmV, pmK, pmQ, pmL, pmX, pmF, pmO, pmA, pmR, pmW, pmB, Option.isSome_some, ft, olds_ints, olds_bools, ↓reduceIte, Nat.reduceEqDiff, reduceCtorEq, Nat.reduceAdd, Nat.reduceMul, Nat.reduceLeDiff, Nat.reduceLT, Int.reduceLE, Int.reduceLT, Int.reduceEq, Int.reduceToNat, Nat.zero_mul, Nat.zero_add, Nat.mul_one, ne_eq, not_false_eq_true, not_true_eq_false, true_and, and_true, decide_true, decide_false, Bool.not_true, Bool.not_false, Bool.false_eq_true, and_self, Nat.add_zero]
    exact finK_le (Heap.le_refl _) k
theorem CloneI2 (fr : Bool) (l : List Int) (n : Nat) (hn : l.length = n) (hl : n ≤ 10000000) (h : Heap) {K : PV → Heap → Prop}
    (k0 : n = 0 → K (.list true 1 0 []) h)
    (k : n ≠ 0 → ∀ b h', h.f b = none → h'.f b = some (l.map (.int .i64)) → h.le h' → K (.buf b 1 0 n) h') :
    CanP Try.prog 20 [.list fr 1 n (l.map (.int .i64))] h K := by
  subst hn; exact CloneI fr l hl h k0 k
theorem SortI2 (X : List Int) (n : Nat) (hn : X.length = n) (hl : n ≤ 1000000) (b : Nat) (h : Heap) (hb : h.f b = some (X.map (.int .i64))) {K : PV → Heap → Prop} (k : K (.tup []) (h.set b ((X.mergeSort fun x y => decide (x ≤ y)).map (.int .i64)))) :
    CanP Try.prog 21 [.buf b 1 0 n] h K := by
  subst hn; exact SortI X hl b h hb k
end Go.Proofs.Ytnalkkailafklaa
