/-
  The order in which places are seen is an order (naskhref29.Visual).
  Conditions: a row of at most a million levels.
-/
import Derived.Test.YthoggjdkabhpkaaPk6
namespace Go.Proofs.Ythoggjdkabhpkaa
open Go.Pm
set_option maxRecDepth 100000
set_option linter.unusedSimpArgs false
set_option linter.unusedVariables false

/-- The first numbers in order. -/
def rng (n : Nat) : List Int := (List.range n).map fun j : Nat => (j : Int)
theorem rng_len (n : Nat) : (rng n).length = n := by simp [rng]
theorem rng_succ (n : Nat) : rng (n + 1) = rng n ++ [(n : Int)] := by simp [rng, List.range_succ]
theorem rng_mem {n : Nat} {x : Int} (h : x ∈ rng n) : 0 ≤ x ∧ x < n := by
  simp only [rng, List.mem_map, List.mem_range] at h
  obtain ⟨j, a, rfl⟩ := h
  omega
theorem rng_nodup (n : Nat) : (rng n).Nodup := by
  refine List.pairwise_map.2 ((List.nodup_range (n := n)).imp fun {a b} q => ?_)
  omega
theorem perm_order {o : List Int} {n : Nat} (h : o.Perm (rng n)) : o.length = n ∧ permB o = true := by
  have hl : o.length = n := by rw [h.length_eq, rng_len]
  refine ⟨hl, permB_of (fun x hx => ?_) (h.nodup_iff.2 (rng_nodup n))⟩
  have := rng_mem (h.mem_iff.1 hx)
  omega
theorem placesR (n : Nat) (hn : n ≤ 1000000) (h : Heap) {K : PV → Heap → Prop} (k : ∀ v h', Acc h h' v 1 n ((rng n).map (.int .i64)) → h.le h' → K v h') : CanP Try.prog 19 [.int .i64 n] h K := by
  refine e19 rfl ?_
  try simp only [c19, r19_0, r19_1, r19_2, r19_3, r19_4, r19_5, r19_6, or_false, false_or, Bool.and_self, Bool.and_true, Bool.true_and, Bool.and_false, Bool.false_and, Bool.not_not, Int.cast_ofNat_Int, beq_self_eq_true, Heap.set_same, Heap.set_set, Heap.kill_kset, Int.toNat_natCast, Int.natCast_nonneg, Int.ofNat_lt, Int.ofNat_le, Int.natCast_inj, pmC, pmE, pmS, pmV, pmK, pmQ, pmL, pmX, pmF, pmO, pmA, pmR, pmW, pmB, Option.isSome_some, ft, olds_ints, olds_bools, ↓reduceIte, Nat.reduceEqDiff, reduceCtorEq, Nat.reduceAdd, Nat.reduceMul, Nat.reduceLeDiff, Nat.reduceLT, Int.reduceLE, Int.reduceLT, Int.reduceEq, Int.reduceToNat, Nat.zero_mul, Nat.zero_add, Nat.mul_one, ne_eq, not_false_eq_true, not_true_eq_false, true_and, and_true, decide_true, decide_false, Bool.not_true, Bool.not_false, Bool.false_eq_true, and_self, Nat.add_zero]
  refine pwp_up n (fun i σ h' => Acc h h' (σ 3) 1 i ((rng i).map (.int .i64)) ∧ h.le h' ∧ σ 0 = .int .i64 n ∧ σ 4 = .int .i64 i) ?_ ?_
  · exact ⟨Acc.nil _ _ _, Heap.le_refl _, rfl, rfl⟩
  rintro i σ h' K' hi ⟨a, lh, s0, s4⟩ next
  rcases Nat.lt_or_ge i n with hlt | hge
  · have hw : IntKind.i64.wrap ((i : Int) + 1) = (i : Int) + 1 := wrap_in (by omega) (by omega)
    try simp only [s0, s4, hlt, or_false, false_or, Bool.and_self, Bool.and_true, Bool.true_and, Bool.and_false, Bool.false_and, Bool.not_not, Int.cast_ofNat_Int, beq_self_eq_true, Heap.set_same, Heap.set_set, Heap.kill_kset, Int.toNat_natCast, Int.natCast_nonneg, Int.ofNat_lt, Int.ofNat_le, Int.natCast_inj, pmC, pmE, pmS, pmV, pmK, pmQ, pmL, pmX, pmF, pmO, pmA, pmR, pmW, pmB, Option.isSome_some, ft, olds_ints, olds_bools, ↓reduceIte, Nat.reduceEqDiff, reduceCtorEq, Nat.reduceAdd, Nat.reduceMul, Nat.reduceLeDiff, Nat.reduceLT, Int.reduceLE, Int.reduceLT, Int.reduceEq, Int.reduceToNat, Nat.zero_mul, Nat.zero_add, Nat.mul_one, ne_eq, not_false_eq_true, not_true_eq_false, true_and, and_true, decide_true, decide_false, Bool.not_true, Bool.not_false, Bool.false_eq_true, and_self, Nat.add_zero]
    refine a.app lh (by decide) rfl (by omega) (by simp only [maxLen]; omega) fun v' h4 a4 l4 sd => ?_
    try simp only [s4, hw, or_false, false_or, Bool.and_self, Bool.and_true, Bool.true_and, Bool.and_false, Bool.false_and, Bool.not_not, Int.cast_ofNat_Int, beq_self_eq_true, Heap.set_same, Heap.set_set, Heap.kill_kset, Int.toNat_natCast, Int.natCast_nonneg, Int.ofNat_lt, Int.ofNat_le, Int.natCast_inj, pmC, pmE, pmS, pmV, pmK, pmQ, pmL, pmX, pmF, pmO, pmA, pmR, pmW, pmB, Option.isSome_some, ft, olds_ints, olds_bools, ↓reduceIte, Nat.reduceEqDiff, reduceCtorEq, Nat.reduceAdd, Nat.reduceMul, Nat.reduceLeDiff, Nat.reduceLT, Int.reduceLE, Int.reduceLT, Int.reduceEq, Int.reduceToNat, Nat.zero_mul, Nat.zero_add, Nat.mul_one, ne_eq, not_false_eq_true, not_true_eq_false, true_and, and_true, decide_true, decide_false, Bool.not_true, Bool.not_false, Bool.false_eq_true, and_self, Nat.add_zero]
    refine next hlt _ _ ?_
    refine ⟨?_, l4, by simp [put, s0], by simp [put]⟩
    rw [rng_succ, List.map_append]
    simpa [put] using a4
  · have e : i = n := by omega
    subst e
    have hnl := Nat.lt_irrefl i
    try simp only [s0, s4, hnl, or_false, false_or, Bool.and_self, Bool.and_true, Bool.true_and, Bool.and_false, Bool.false_and, Bool.not_not, Int.cast_ofNat_Int, beq_self_eq_true, Heap.set_same, Heap.set_set, Heap.kill_kset, Int.toNat_natCast, Int.natCast_nonneg, Int.ofNat_lt, Int.ofNat_le, Int.natCast_inj, pmC, pmE, pmS, pmV, pmK, pmQ, pmL, pmX, pmF, pmO, pmA, pmR, pmW, pmB, Option.isSome_some, ft, olds_ints, olds_bools, ↓reduceIte, Nat.reduceEqDiff, reduceCtorEq, Nat.reduceAdd, Nat.reduceMul, Nat.reduceLeDiff, Nat.reduceLT, Int.reduceLE, Int.reduceLT, Int.reduceEq, Int.reduceToNat, Nat.zero_mul, Nat.zero_add, Nat.mul_one, ne_eq, not_false_eq_true, not_true_eq_false, true_and, and_true, decide_true, decide_false, Bool.not_true, Bool.not_false, Bool.false_eq_true, and_self, Nat.add_zero]
    exact finK_rf (k _ _ a lh)
/-- A level that is one. -/
def clampZ (x : Int) : Int := let m := if x < 0 then 0 else x; if 126 < m then 126 else m
theorem clamp_in (x : Int) : 0 ≤ clampZ x ∧ clampZ x ≤ 126 := by
  simp only [clampZ]
  split <;> split <;> omega
theorem HeldR (fr : Bool) (X : List Int) (hl : X.length ≤ 1000000) (h : Heap) {K : PV → Heap → Prop} (k : K (.list true 1 X.length ((X.map clampZ).map (.int .i64))) h) :
    CanP Try.prog 18 [.list fr 1 X.length (X.map (.int .i64))] h K := by
  refine e18 rfl ?_
  try simp only [c18, r18_0, r18_1, r18_2, r18_3, r18_4, r18_5, r18_6, or_false, false_or, Bool.and_self, Bool.and_true, Bool.true_and, Bool.and_false, Bool.false_and, Bool.not_not, Int.cast_ofNat_Int, beq_self_eq_true, Heap.set_same, Heap.set_set, Heap.kill_kset, Int.toNat_natCast, Int.natCast_nonneg, Int.ofNat_lt, Int.ofNat_le, Int.natCast_inj, pmC, pmE, pmS, pmV, pmK, pmQ, pmL, pmX, pmF, pmO, pmA, pmR, pmW, pmB, Option.isSome_some, ft, olds_ints, olds_bools, ↓reduceIte, Nat.reduceEqDiff, reduceCtorEq, Nat.reduceAdd, Nat.reduceMul, Nat.reduceLeDiff, Nat.reduceLT, Int.reduceLE, Int.reduceLT, Int.reduceEq, Int.reduceToNat, Nat.zero_mul, Nat.zero_add, Nat.mul_one, ne_eq, not_false_eq_true, not_true_eq_false, true_and, and_true, decide_true, decide_false, Bool.not_true, Bool.not_false, Bool.false_eq_true, and_self, Nat.add_zero]
  refine pwp_up X.length (fun i σ h' => Acc h h' (σ 3) 1 i (((X.take i).map clampZ).map (.int .i64)) ∧ h.le h' ∧ σ 0 = .list false 1 X.length (X.map (.int .i64)) ∧ σ 4 = .int .i64 i) ?_ ?_
  · exact ⟨Acc.nil _ _ _, Heap.le_refl _, rfl, rfl⟩
  rintro i σ h' K' hi ⟨a, lh, s0, s4⟩ next
  rcases Nat.lt_or_ge i X.length with hlt | hge
  · have hw : IntKind.i64.wrap ((i : Int) + 1) = (i : Int) + 1 := wrap_in (by omega) (by omega)
    have hx := getm (PV.int .i64) X hlt
    have ht := take_succ_map clampZ X hlt
    generalize X.getD i default = c at *
    try simp only [s0, s4, hlt, hx, or_false, false_or, Bool.and_self, Bool.and_true, Bool.true_and, Bool.and_false, Bool.false_and, Bool.not_not, Int.cast_ofNat_Int, beq_self_eq_true, Heap.set_same, Heap.set_set, Heap.kill_kset, Int.toNat_natCast, Int.natCast_nonneg, Int.ofNat_lt, Int.ofNat_le, Int.natCast_inj, pmC, pmE, pmS, pmV, pmK, pmQ, pmL, pmX, pmF, pmO, pmA, pmR, pmW, pmB, Option.isSome_some, ft, olds_ints, olds_bools, ↓reduceIte, Nat.reduceEqDiff, reduceCtorEq, Nat.reduceAdd, Nat.reduceMul, Nat.reduceLeDiff, Nat.reduceLT, Int.reduceLE, Int.reduceLT, Int.reduceEq, Int.reduceToNat, Nat.zero_mul, Nat.zero_add, Nat.mul_one, ne_eq, not_false_eq_true, not_true_eq_false, true_and, and_true, decide_true, decide_false, Bool.not_true, Bool.not_false, Bool.false_eq_true, and_self, Nat.add_zero]
    refine a.app lh (by decide) rfl (by omega) (by simp only [maxLen]; omega) fun v' h4 a4 l4 sd => ?_
    try simp only [s4, hw, or_false, false_or, Bool.and_self, Bool.and_true, Bool.true_and, Bool.and_false, Bool.false_and, Bool.not_not, Int.cast_ofNat_Int, beq_self_eq_true, Heap.set_same, Heap.set_set, Heap.kill_kset, Int.toNat_natCast, Int.natCast_nonneg, Int.ofNat_lt, Int.ofNat_le, Int.natCast_inj, pmC, pmE, pmS, pmV, pmK, pmQ, pmL, pmX, pmF, pmO, pmA, pmR, pmW, pmB, Option.isSome_some, ft, olds_ints, olds_bools, ↓reduceIte, Nat.reduceEqDiff, reduceCtorEq, Nat.reduceAdd, Nat.reduceMul, Nat.reduceLeDiff, Nat.reduceLT, Int.reduceLE, Int.reduceLT, Int.reduceEq, Int.reduceToNat, Nat.zero_mul, Nat.zero_add, Nat.mul_one, ne_eq, not_false_eq_true, not_true_eq_false, true_and, and_true, decide_true, decide_false, Bool.not_true, Bool.not_false, Bool.false_eq_true, and_self, Nat.add_zero]
    refine next hlt _ _ ?_
    refine ⟨?_, l4, by simp [put, s0], by simp [put]⟩
    rw [ht, List.map_append]
    simpa [put, clampZ] using a4
  · have e : i = X.length := by omega
    subst e
    have hnl := Nat.lt_irrefl X.length
    try simp only [s0, s4, hnl, or_false, false_or, Bool.and_self, Bool.and_true, Bool.true_and, Bool.and_false, Bool.false_and, Bool.not_not, Int.cast_ofNat_Int, beq_self_eq_true, Heap.set_same, Heap.set_set, Heap.kill_kset, Int.toNat_natCast, Int.natCast_nonneg, Int.ofNat_lt, Int.ofNat_le, Int.natCast_inj, pmC, pmE, pmS, pmV, pmK, pmQ, pmL, pmX, pmF, pmO, pmA, pmR, pmW, pmB, Option.isSome_some, ft, olds_ints, olds_bools, ↓reduceIte, Nat.reduceEqDiff, reduceCtorEq, Nat.reduceAdd, Nat.reduceMul, Nat.reduceLeDiff, Nat.reduceLT, Int.reduceLE, Int.reduceLT, Int.reduceEq, Int.reduceToNat, Nat.zero_mul, Nat.zero_add, Nat.mul_one, ne_eq, not_false_eq_true, not_true_eq_false, true_and, and_true, decide_true, decide_false, Bool.not_true, Bool.not_false, Bool.false_eq_true, and_self, Nat.add_zero]
    rw [List.take_length] at a
    refine a.fin lh ?_
    rw [olds_ints]; exact k
theorem oddR (fr : Bool) (X : List Int) (hl : X.length ≤ 1000000) (v : Int) (h : Heap) {K : PV → Heap → Prop} (k : ∀ bb, K (.bool bb) h) :
    CanP Try.prog 20 [.list fr 1 X.length (X.map (.int .i64)), .int .i64 v] h K := by
  refine e20 rfl ?_
  try simp only [c20, r20_0, r20_1, r20_2, r20_3, r20_4, r20_5, r20_6, or_false, false_or, Bool.and_self, Bool.and_true, Bool.true_and, Bool.and_false, Bool.false_and, Bool.not_not, Int.cast_ofNat_Int, beq_self_eq_true, Heap.set_same, Heap.set_set, Heap.kill_kset, Int.toNat_natCast, Int.natCast_nonneg, Int.ofNat_lt, Int.ofNat_le, Int.natCast_inj, pmC, pmE, pmS, pmV, pmK, pmQ, pmL, pmX, pmF, pmO, pmA, pmR, pmW, pmB, Option.isSome_some, ft, olds_ints, olds_bools, ↓reduceIte, Nat.reduceEqDiff, reduceCtorEq, Nat.reduceAdd, Nat.reduceMul, Nat.reduceLeDiff, Nat.reduceLT, Int.reduceLE, Int.reduceLT, Int.reduceEq, Int.reduceToNat, Nat.zero_mul, Nat.zero_add, Nat.mul_one, ne_eq, not_false_eq_true, not_true_eq_false, true_and, and_true, decide_true, decide_false, Bool.not_true, Bool.not_false, Bool.false_eq_true, and_self, Nat.add_zero]
  refine pwp_up X.length (fun i σ h' => h' = h ∧ σ 0 = .list false 1 X.length (X.map (.int .i64)) ∧ σ 1 = .int .i64 v ∧ σ 5 = .int .i64 i) ?_ ?_
  · exact ⟨rfl, rfl, rfl, rfl⟩
  rintro i σ h' K' hi ⟨rfl, s0, s1, s5⟩ next
  rcases Nat.lt_or_ge i X.length with hlt | hge
  · have hw : IntKind.i64.wrap ((i : Int) + 1) = (i : Int) + 1 := wrap_in (by omega) (by omega)
    have hx := getm (PV.int .i64) X hlt
    generalize X.getD i default = c at *
    cases h1 : decide (c.tmod 2 = 1)
    · try simp only [s0, s1, s5, hlt, hx, h1, hw, or_false, false_or, Bool.and_self, Bool.and_true, Bool.true_and, Bool.and_false, Bool.false_and, Bool.not_not, Int.cast_ofNat_Int, beq_self_eq_true, Heap.set_same, Heap.set_set, Heap.kill_kset, Int.toNat_natCast, Int.natCast_nonneg, Int.ofNat_lt, Int.ofNat_le, Int.natCast_inj, pmC, pmE, pmS, pmV, pmK, pmQ, pmL, pmX, pmF, pmO, pmA, pmR, pmW, pmB, Option.isSome_some, ft, olds_ints, olds_bools, ↓reduceIte, Nat.reduceEqDiff, reduceCtorEq, Nat.reduceAdd, Nat.reduceMul, Nat.reduceLeDiff, Nat.reduceLT, Int.reduceLE, Int.reduceLT, Int.reduceEq, Int.reduceToNat, Nat.zero_mul, Nat.zero_add, Nat.mul_one, ne_eq, not_false_eq_true, not_true_eq_false, true_and, and_true, decide_true, decide_false, Bool.not_true, Bool.not_false, Bool.false_eq_true, and_self, Nat.add_zero]
      refine next hlt _ _ ?_
      exact ⟨rfl, by simp [put, s0], by simp [put, s1], by simp [put]⟩
    · cases h2 : decide (c ≤ v)
      · try simp only [s0, s1, s5, hlt, hx, h1, h2, hw, or_false, false_or, Bool.and_self, Bool.and_true, Bool.true_and, Bool.and_false, Bool.false_and, Bool.not_not, Int.cast_ofNat_Int, beq_self_eq_true, Heap.set_same, Heap.set_set, Heap.kill_kset, Int.toNat_natCast, Int.natCast_nonneg, Int.ofNat_lt, Int.ofNat_le, Int.natCast_inj, pmC, pmE, pmS, pmV, pmK, pmQ, pmL, pmX, pmF, pmO, pmA, pmR, pmW, pmB, Option.isSome_some, ft, olds_ints, olds_bools, ↓reduceIte, Nat.reduceEqDiff, reduceCtorEq, Nat.reduceAdd, Nat.reduceMul, Nat.reduceLeDiff, Nat.reduceLT, Int.reduceLE, Int.reduceLT, Int.reduceEq, Int.reduceToNat, Nat.zero_mul, Nat.zero_add, Nat.mul_one, ne_eq, not_false_eq_true, not_true_eq_false, true_and, and_true, decide_true, decide_false, Bool.not_true, Bool.not_false, Bool.false_eq_true, and_self, Nat.add_zero]
        refine next hlt _ _ ?_
        exact ⟨rfl, by simp [put, s0], by simp [put, s1], by simp [put]⟩
      · try simp only [s0, s1, s5, hlt, hx, h1, h2, hw, or_false, false_or, Bool.and_self, Bool.and_true, Bool.true_and, Bool.and_false, Bool.false_and, Bool.not_not, Int.cast_ofNat_Int, beq_self_eq_true, Heap.set_same, Heap.set_set, Heap.kill_kset, Int.toNat_natCast, Int.natCast_nonneg, Int.ofNat_lt, Int.ofNat_le, Int.natCast_inj, pmC, pmE, pmS, pmV, pmK, pmQ, pmL, pmX, pmF, pmO, pmA, pmR, pmW, pmB, Option.isSome_some, ft, olds_ints, olds_bools, ↓reduceIte, Nat.reduceEqDiff, reduceCtorEq, Nat.reduceAdd, Nat.reduceMul, Nat.reduceLeDiff, Nat.reduceLT, Int.reduceLE, Int.reduceLT, Int.reduceEq, Int.reduceToNat, Nat.zero_mul, Nat.zero_add, Nat.mul_one, ne_eq, not_false_eq_true, not_true_eq_false, true_and, and_true, decide_true, decide_false, Bool.not_true, Bool.not_false, Bool.false_eq_true, and_self, Nat.add_zero]
        exact finK_rf (k _)
  · have e : i = X.length := by omega
    subst e
    have hnl := Nat.lt_irrefl X.length
    try simp only [s0, s1, s5, hnl, or_false, false_or, Bool.and_self, Bool.and_true, Bool.true_and, Bool.and_false, Bool.false_and, Bool.not_not, Int.cast_ofNat_Int, beq_self_eq_true, Heap.set_same, Heap.set_set, Heap.kill_kset, Int.toNat_natCast, Int.natCast_nonneg, Int.ofNat_lt, Int.ofNat_le, Int.natCast_inj, pmC, pmE, pmS, pmV, pmK, pmQ, pmL, pmX, pmF, pmO, pmA, pmR, pmW, pmB, Option.isSome_some, ft, olds_ints, olds_bools, ↓reduceIte, Nat.reduceEqDiff, reduceCtorEq, Nat.reduceAdd, Nat.reduceMul, Nat.reduceLeDiff, Nat.reduceLT, Int.reduceLE, Int.reduceLT, Int.reduceEq, Int.reduceToNat, Nat.zero_mul, Nat.zero_add, Nat.mul_one, ne_eq, not_false_eq_true, not_true_eq_false, true_and, and_true, decide_true, decide_false, Bool.not_true, Bool.not_false, Bool.false_eq_true, and_self, Nat.add_zero]
    exact finK_rf (k _)
theorem swp_perm (l : List Int) {i j : Nat} (hi : i < l.length) (hj : j < l.length) : ((l.set i (l.getD j default)).set j (l.getD i default)).Perm l := by
  have := List.set_set_perm hi hj
  simpa [List.getD, hi, hj] using this
theorem turnR (X : List Int) (hl : X.length ≤ 1000000) (b : Nat) (lo hi : Nat) (hhi : hi ≤ X.length) (hlo : lo ≤ X.length) (h : Heap) (hb : h.f b = some (X.map (.int .i64))) {K : PV → Heap → Prop} (k : ∀ Y : List Int, Y.Perm X → K (.tup []) (h.set b (Y.map (.int .i64)))) :
    CanP Try.prog 21 [.buf b 1 0 X.length, .int .i64 lo, .int .i64 hi] h K := by
  refine e21 rfl ?_
  try simp only [c21, r21_0, r21_1, r21_2, r21_3, or_false, false_or, Bool.and_self, Bool.and_true, Bool.true_and, Bool.and_false, Bool.false_and, Bool.not_not, Int.cast_ofNat_Int, beq_self_eq_true, Heap.set_same, Heap.set_set, Heap.kill_kset, Int.toNat_natCast, Int.natCast_nonneg, Int.ofNat_lt, Int.ofNat_le, Int.natCast_inj, pmC, pmE, pmS, pmV, pmK, pmQ, pmL, pmX, pmF, pmO, pmA, pmR, pmW, pmB, Option.isSome_some, ft, olds_ints, olds_bools, ↓reduceIte, Nat.reduceEqDiff, reduceCtorEq, Nat.reduceAdd, Nat.reduceMul, Nat.reduceLeDiff, Nat.reduceLT, Int.reduceLE, Int.reduceLT, Int.reduceEq, Int.reduceToNat, Nat.zero_mul, Nat.zero_add, Nat.mul_one, ne_eq, not_false_eq_true, not_true_eq_false, true_and, and_true, decide_true, decide_false, Bool.not_true, Bool.not_false, Bool.false_eq_true, and_self, Nat.add_zero]
  refine pwp_fall (fun m σ h' => ∃ (Y : List Int) (l r : Nat), m = r ∧ r ≤ hi ∧ l ≤ lo + hi ∧ Y.Perm X ∧ h' = h.set b (Y.map (.int .i64)) ∧ σ 0 = .buf b 1 0 X.length ∧ σ 1 = .int .i64 l ∧ σ 2 = .int .i64 r) hi ⟨X, lo, hi, rfl, Nat.le_refl _, by omega, List.Perm.refl _, (Heap.set_self hb).symm, rfl, rfl, rfl⟩ ?_
  rintro r σ h' K' ⟨Y, l, r9, rfl, hr, hl9, hp, rfl, s0, s1, s2⟩ next
  have hYl : Y.length = X.length := hp.length_eq
  have hwd : IntKind.i64.wrap ((r : Int) - l) = (r : Int) - l := wrap_in (by omega) (by omega)
  by_cases h1 : (1 : Int) < (r : Int) - l
  · have hw1 : IntKind.i64.wrap ((r : Int) - 1) = ((r - 1 : Nat) : Int) := by rw [wrap_in (by omega) (by omega)]; omega
    have hw2 : IntKind.i64.wrap ((l : Int) + 1) = ((l + 1 : Nat) : Int) := by rw [wrap_in (by omega) (by omega)]; omega
    have hlX : l < X.length := by omega
    have hrX : r - 1 < X.length := by omega
    have hx := getm (PV.int .i64) Y (i := l) (by omega)
    have hy := getm (PV.int .i64) Y (i := r - 1) (by omega)
    have hsw := swp_perm Y (i := l) (j := r - 1) (by omega) (by omega)
    have hYL : (Y.map (PV.int .i64)).length = X.length := by simp [hYl]
    generalize Y.getD l default = u at *
    generalize Y.getD (r - 1) default = w at *
    have hws1 := wr_map (PV.int .i64) w Y (i := l) (by omega)
    have hws2 := wr_map (PV.int .i64) u (Y.set l w) (i := r - 1) (by simp; omega)
    have hYL2 : ((Y.set l w).map (PV.int .i64)).length = X.length := by simp [hYl]
    try simp only [s0, s1, s2, hwd, h1, hw1, hw2, hlX, hrX, hx, hy, hYL, hws1, hws2, hYL2, or_false, false_or, Bool.and_self, Bool.and_true, Bool.true_and, Bool.and_false, Bool.false_and, Bool.not_not, Int.cast_ofNat_Int, beq_self_eq_true, Heap.set_same, Heap.set_set, Heap.kill_kset, Int.toNat_natCast, Int.natCast_nonneg, Int.ofNat_lt, Int.ofNat_le, Int.natCast_inj, pmC, pmE, pmS, pmV, pmK, pmQ, pmL, pmX, pmF, pmO, pmA, pmR, pmW, pmB, Option.isSome_some, ft, olds_ints, olds_bools, ↓reduceIte, Nat.reduceEqDiff, reduceCtorEq, Nat.reduceAdd, Nat.reduceMul, Nat.reduceLeDiff, Nat.reduceLT, Int.reduceLE, Int.reduceLT, Int.reduceEq, Int.reduceToNat, Nat.zero_mul, Nat.zero_add, Nat.mul_one, ne_eq, not_false_eq_true, not_true_eq_false, true_and, and_true, decide_true, decide_false, Bool.not_true, Bool.not_false, Bool.false_eq_true, and_self, Nat.add_zero]
    refine ⟨by omega, by omega, next (r - 1) _ _ (by omega) ?_⟩
    exact ⟨_, l + 1, r - 1, rfl, by omega, by omega, hsw.trans hp, rfl, by simp [put, s0], by simp [put], by simp [put]⟩
  · try simp only [s0, s1, s2, hwd, h1, or_false, false_or, Bool.and_self, Bool.and_true, Bool.true_and, Bool.and_false, Bool.false_and, Bool.not_not, Int.cast_ofNat_Int, beq_self_eq_true, Heap.set_same, Heap.set_set, Heap.kill_kset, Int.toNat_natCast, Int.natCast_nonneg, Int.ofNat_lt, Int.ofNat_le, Int.natCast_inj, pmC, pmE, pmS, pmV, pmK, pmQ, pmL, pmX, pmF, pmO, pmA, pmR, pmW, pmB, Option.isSome_some, ft, olds_ints, olds_bools, ↓reduceIte, Nat.reduceEqDiff, reduceCtorEq, Nat.reduceAdd, Nat.reduceMul, Nat.reduceLeDiff, Nat.reduceLT, Int.reduceLE, Int.reduceLT, Int.reduceEq, Int.reduceToNat, Nat.zero_mul, Nat.zero_add, Nat.mul_one, ne_eq, not_false_eq_true, not_true_eq_false, true_and, and_true, decide_true, decide_false, Bool.not_true, Bool.not_false, Bool.false_eq_true, and_self, Nat.add_zero]
    exact finK_rf (k Y hp)
theorem VisualR (fr : Bool) (X : List Int) (hl : X.length ≤ 1000000) (h : Heap) {K : PV → Heap → Prop} (k : ∀ o : List Int, o.Perm (rng X.length) → K (.list true 1 o.length (o.map (.int .i64))) h) :
    CanP Try.prog 7 [.list fr 1 X.length (X.map (.int .i64))] h K := by
  refine e7 rfl ?_
  try simp only [c7, r7_0, r7_1, r7_2, r7_3, r7_4, r7_5, r7_6, r7_7, r7_8, r7_9, r7_10, r7_11, r7_12, r7_13, r7_14, r7_15, r7_16, r7_17, r7_18, r7_19, r7_20, or_false, false_or, Bool.and_self, Bool.and_true, Bool.true_and, Bool.and_false, Bool.false_and, Bool.not_not, Int.cast_ofNat_Int, beq_self_eq_true, Heap.set_same, Heap.set_set, Heap.kill_kset, Int.toNat_natCast, Int.natCast_nonneg, Int.ofNat_lt, Int.ofNat_le, Int.natCast_inj, pmC, pmE, pmS, pmV, pmK, pmQ, pmL, pmX, pmF, pmO, pmA, pmR, pmW, pmB, Option.isSome_some, ft, olds_ints, olds_bools, ↓reduceIte, Nat.reduceEqDiff, reduceCtorEq, Nat.reduceAdd, Nat.reduceMul, Nat.reduceLeDiff, Nat.reduceLT, Int.reduceLE, Int.reduceLT, Int.reduceEq, Int.reduceToNat, Nat.zero_mul, Nat.zero_add, Nat.mul_one, ne_eq, not_false_eq_true, not_true_eq_false, true_and, and_true, decide_true, decide_false, Bool.not_true, Bool.not_false, Bool.false_eq_true, and_self, Nat.add_zero]
  refine HeldR _ X hl _ ?_
  try simp only [or_false, false_or, Bool.and_self, Bool.and_true, Bool.true_and, Bool.and_false, Bool.false_and, Bool.not_not, Int.cast_ofNat_Int, beq_self_eq_true, Heap.set_same, Heap.set_set, Heap.kill_kset, Int.toNat_natCast, Int.natCast_nonneg, Int.ofNat_lt, Int.ofNat_le, Int.natCast_inj, pmC, pmE, pmS, pmV, pmK, pmQ, pmL, pmX, pmF, pmO, pmA, pmR, pmW, pmB, Option.isSome_some, ft, olds_ints, olds_bools, ↓reduceIte, Nat.reduceEqDiff, reduceCtorEq, Nat.reduceAdd, Nat.reduceMul, Nat.reduceLeDiff, Nat.reduceLT, Int.reduceLE, Int.reduceLT, Int.reduceEq, Int.reduceToNat, Nat.zero_mul, Nat.zero_add, Nat.mul_one, ne_eq, not_false_eq_true, not_true_eq_false, true_and, and_true, decide_true, decide_false, Bool.not_true, Bool.not_false, Bool.false_eq_true, and_self, Nat.add_zero]
  refine placesR _ hl _ fun v h1 a1 l1 => ?_
  try simp only [or_false, false_or, Bool.and_self, Bool.and_true, Bool.true_and, Bool.and_false, Bool.false_and, Bool.not_not, Int.cast_ofNat_Int, beq_self_eq_true, Heap.set_same, Heap.set_set, Heap.kill_kset, Int.toNat_natCast, Int.natCast_nonneg, Int.ofNat_lt, Int.ofNat_le, Int.natCast_inj, pmC, pmE, pmS, pmV, pmK, pmQ, pmL, pmX, pmF, pmO, pmA, pmR, pmW, pmB, Option.isSome_some, ft, olds_ints, olds_bools, ↓reduceIte, Nat.reduceEqDiff, reduceCtorEq, Nat.reduceAdd, Nat.reduceMul, Nat.reduceLeDiff, Nat.reduceLT, Int.reduceLE, Int.reduceLT, Int.reduceEq, Int.reduceToNat, Nat.zero_mul, Nat.zero_add, Nat.mul_one, ne_eq, not_false_eq_true, not_true_eq_false, true_and, and_true, decide_true, decide_false, Bool.not_true, Bool.not_false, Bool.false_eq_true, and_self, Nat.add_zero]
  obtain ⟨H, hH⟩ : ∃ H, H = X.map clampZ := ⟨_, rfl⟩
  have hHl : H.length = X.length := by simp [hH]
  have hHi : ∀ x ∈ H, 0 ≤ x ∧ x ≤ 126 := fun x hx => by
    rw [hH, List.mem_map] at hx
    obtain ⟨y, _, rfl⟩ := hx
    exact clamp_in y
  rw [← hH, ← hHl]
  rw [← hHl] at k a1 hl
  generalize hn : H.length = n at *
  refine pwp_up n (fun i σ h' => h' = h1 ∧ σ 0 = .list true 1 n (H.map (.int .i64)) ∧ σ 3 = v ∧ (∃ m : Int, σ 4 = .int .i64 m ∧ 0 ≤ m ∧ m ≤ 126 ∧ (n = 0 → m = 0)) ∧ σ 5 = .int .i64 i) ?_ ?_
  · exact ⟨rfl, by simp [put], by simp [put], ⟨0, by simp [put], by omega, by omega, fun _ => rfl⟩, by simp [put]⟩
  rintro i σ h' K' hi ⟨rfl, s0, s3, ⟨m, s4, m0, m1, m2⟩, s5⟩ next
  rcases Nat.lt_or_ge i n with hlt | hge
  · have hw : IntKind.i64.wrap ((i : Int) + 1) = (i : Int) + 1 := wrap_in (by omega) (by omega)
    have hx := getm (PV.int .i64) H (i := i) (by omega)
    have hxi := hHi _ (get_mem H (i := i) (by omega))
    generalize H.getD i default = c at *
    try simp only [s0, s3, s4, s5, hlt, hx, hw, hn, or_false, false_or, Bool.and_self, Bool.and_true, Bool.true_and, Bool.and_false, Bool.false_and, Bool.not_not, Int.cast_ofNat_Int, beq_self_eq_true, Heap.set_same, Heap.set_set, Heap.kill_kset, Int.toNat_natCast, Int.natCast_nonneg, Int.ofNat_lt, Int.ofNat_le, Int.natCast_inj, pmC, pmE, pmS, pmV, pmK, pmQ, pmL, pmX, pmF, pmO, pmA, pmR, pmW, pmB, Option.isSome_some, ft, olds_ints, olds_bools, ↓reduceIte, Nat.reduceEqDiff, reduceCtorEq, Nat.reduceAdd, Nat.reduceMul, Nat.reduceLeDiff, Nat.reduceLT, Int.reduceLE, Int.reduceLT, Int.reduceEq, Int.reduceToNat, Nat.zero_mul, Nat.zero_add, Nat.mul_one, ne_eq, not_false_eq_true, not_true_eq_false, true_and, and_true, decide_true, decide_false, Bool.not_true, Bool.not_false, Bool.false_eq_true, and_self, Nat.add_zero]
    refine next hlt _ _ ?_
    exact ⟨rfl, by simp [put, s0], by simp [put, s3], ⟨if m < c then c else m, by simp [put], by split <;> omega, by split <;> omega, by omega⟩, by simp [put]⟩
  · have e : i = n := by omega
    subst e
    have hnl := Nat.lt_irrefl i
    try simp only [s0, s3, s4, s5, hnl, or_false, false_or, Bool.and_self, Bool.and_true, Bool.true_and, Bool.and_false, Bool.false_and, Bool.not_not, Int.cast_ofNat_Int, beq_self_eq_true, Heap.set_same, Heap.set_set, Heap.kill_kset, Int.toNat_natCast, Int.natCast_nonneg, Int.ofNat_lt, Int.ofNat_le, Int.natCast_inj, pmC, pmE, pmS, pmV, pmK, pmQ, pmL, pmX, pmF, pmO, pmA, pmR, pmW, pmB, Option.isSome_some, ft, olds_ints, olds_bools, ↓reduceIte, Nat.reduceEqDiff, reduceCtorEq, Nat.reduceAdd, Nat.reduceMul, Nat.reduceLeDiff, Nat.reduceLT, Int.reduceLE, Int.reduceLT, Int.reduceEq, Int.reduceToNat, Nat.zero_mul, Nat.zero_add, Nat.mul_one, ne_eq, not_false_eq_true, not_true_eq_false, true_and, and_true, decide_true, decide_false, Bool.not_true, Bool.not_false, Bool.false_eq_true, and_self, Nat.add_zero]
    rcases a1 with ⟨rfl, rfl, -⟩ | ⟨b, rfl, hbn, hb, -⟩
    · obtain rfl : m = 0 := m2 rfl
      refine pwp_fall (fun t σ h9 => h9 = h' ∧ σ 3 = .nils ∧ σ 6 = .int .i64 0) 0 ⟨rfl, by simp [put, s3], by simp [put]⟩ ?_
      rintro t σ h9 K9 ⟨rfl, s3, s6⟩ next9
      try simp only [s3, s6, or_false, false_or, Bool.and_self, Bool.and_true, Bool.true_and, Bool.and_false, Bool.false_and, Bool.not_not, Int.cast_ofNat_Int, beq_self_eq_true, Heap.set_same, Heap.set_set, Heap.kill_kset, Int.toNat_natCast, Int.natCast_nonneg, Int.ofNat_lt, Int.ofNat_le, Int.natCast_inj, pmC, pmE, pmS, pmV, pmK, pmQ, pmL, pmX, pmF, pmO, pmA, pmR, pmW, pmB, Option.isSome_some, ft, olds_ints, olds_bools, ↓reduceIte, Nat.reduceEqDiff, reduceCtorEq, Nat.reduceAdd, Nat.reduceMul, Nat.reduceLeDiff, Nat.reduceLT, Int.reduceLE, Int.reduceLT, Int.reduceEq, Int.reduceToNat, Nat.zero_mul, Nat.zero_add, Nat.mul_one, ne_eq, not_false_eq_true, not_true_eq_false, true_and, and_true, decide_true, decide_false, Bool.not_true, Bool.not_false, Bool.false_eq_true, and_self, Nat.add_zero]
      exact (Acc.nil _ _ 1).fin l1 (by simpa [olds] using k [] (List.Perm.refl _))
    refine pwp_fall (fun t σ h9 => (∃ Y : List Int, h9.f b = some (Y.map (.int .i64)) ∧ Y.Perm (rng i)) ∧ h.le h9 ∧ σ 0 = .list true 1 i (H.map (.int .i64)) ∧ σ 3 = .buf b 1 0 i ∧ σ 6 = .int .i64 t ∧ t ≤ 126) m.toNat ⟨⟨_, hb, List.Perm.refl _⟩, l1, by simp [put, s0], by simp [put, s3], by simp [put]; omega, by omega⟩ ?_
    clear s0 s3 s4 s5 next
    rintro t σ h9 K9 ⟨⟨Y, hY, pY⟩, lh, s0, s3, s6, ht⟩ next9
    by_cases ht1 : 1 ≤ t
    · have ht1' : (1 : Int) ≤ (t : Int) := by omega
      have hwt : IntKind.i64.wrap ((t : Int) - 1) = ((t - 1 : Nat) : Int) := by rw [wrap_in (by omega) (by omega)]; omega
      try simp only [s0, s3, s6, ht1', or_false, false_or, Bool.and_self, Bool.and_true, Bool.true_and, Bool.and_false, Bool.false_and, Bool.not_not, Int.cast_ofNat_Int, beq_self_eq_true, Heap.set_same, Heap.set_set, Heap.kill_kset, Int.toNat_natCast, Int.natCast_nonneg, Int.ofNat_lt, Int.ofNat_le, Int.natCast_inj, pmC, pmE, pmS, pmV, pmK, pmQ, pmL, pmX, pmF, pmO, pmA, pmR, pmW, pmB, Option.isSome_some, ft, olds_ints, olds_bools, ↓reduceIte, Nat.reduceEqDiff, reduceCtorEq, Nat.reduceAdd, Nat.reduceMul, Nat.reduceLeDiff, Nat.reduceLT, Int.reduceLE, Int.reduceLT, Int.reduceEq, Int.reduceToNat, Nat.zero_mul, Nat.zero_add, Nat.mul_one, ne_eq, not_false_eq_true, not_true_eq_false, true_and, and_true, decide_true, decide_false, Bool.not_true, Bool.not_false, Bool.false_eq_true, and_self, Nat.add_zero]
      refine pwp_fall (fun q σ h9 => ∃ (Y : List Int) (lo : Nat), q = i - lo ∧ lo ≤ i ∧ h9.f b = some (Y.map (.int .i64)) ∧ Y.Perm (rng i) ∧ h.le h9 ∧ σ 0 = .list true 1 i (H.map (.int .i64)) ∧ σ 3 = .buf b 1 0 i ∧ σ 6 = .int .i64 t ∧ σ 7 = .int .i64 lo) i ⟨Y, 0, rfl, by omega, hY, pY, lh, by simp [put, s0], by simp [put, s3], by simp [put, s6], by simp [put]⟩ ?_
      clear s0 s3 s6 hY pY lh
      rintro q σ h9 K8 ⟨Y, lo, rfl, hlo, hY, pY, lh, s0, s3, s6, s7⟩ next8
      rcases Nat.lt_or_ge lo i with hlt | hge
      · have hYl : Y.length = i := by rw [pY.length_eq, rng_len]
        have hYi : ∀ x ∈ Y, 0 ≤ x ∧ x < (i : Int) := fun x hx => rng_mem (pY.mem_iff.1 hx)
        try simp only [s0, s3, s6, s7, hlt, or_false, false_or, Bool.and_self, Bool.and_true, Bool.true_and, Bool.and_false, Bool.false_and, Bool.not_not, Int.cast_ofNat_Int, beq_self_eq_true, Heap.set_same, Heap.set_set, Heap.kill_kset, Int.toNat_natCast, Int.natCast_nonneg, Int.ofNat_lt, Int.ofNat_le, Int.natCast_inj, pmC, pmE, pmS, pmV, pmK, pmQ, pmL, pmX, pmF, pmO, pmA, pmR, pmW, pmB, Option.isSome_some, ft, olds_ints, olds_bools, ↓reduceIte, Nat.reduceEqDiff, reduceCtorEq, Nat.reduceAdd, Nat.reduceMul, Nat.reduceLeDiff, Nat.reduceLT, Int.reduceLE, Int.reduceLT, Int.reduceEq, Int.reduceToNat, Nat.zero_mul, Nat.zero_add, Nat.mul_one, ne_eq, not_false_eq_true, not_true_eq_false, true_and, and_true, decide_true, decide_false, Bool.not_true, Bool.not_false, Bool.false_eq_true, and_self, Nat.add_zero]
        refine pwp_fall (fun q σ h7 => ∃ z : Nat, h7 = h9 ∧ q = i - z ∧ lo ≤ z ∧ z ≤ i ∧ σ 0 = .list true 1 i (H.map (.int .i64)) ∧ σ 3 = .buf b 1 0 i ∧ σ 6 = .int .i64 t ∧ σ 7 = .int .i64 lo ∧ σ 8 = .int .i64 z) (i - lo) ⟨lo, rfl, rfl, Nat.le_refl _, hlo, by simp [put, s0], by simp [put, s3], by simp [put, s6], by simp [put, s7], by simp [put]⟩ ?_
        clear s0 s3 s6 s7
        rintro e σ h7 K7 ⟨z, rfl, rfl, hz, hzi9, s0, s3, s6, s7, s8⟩ next7
        have hn1 : H.length = i := hn
        rcases Nat.lt_or_ge z i with hzi | hzi
        · have hwz1 : IntKind.i64.wrap ((z : Int) + 1) = ((z + 1 : Nat) : Int) := by rw [wrap_in (by omega) (by omega)]; omega
          have hYL : (Y.map (PV.int .i64)).length = i := by simp [hYl]
          have hx := getm (PV.int .i64) Y (i := z) (by omega)
          have hxi := hYi _ (get_mem Y (i := z) (by omega))
          generalize Y.getD z default = c at *
          obtain ⟨j, rfl⟩ : ∃ j : Nat, c = j := ⟨c.toNat, by omega⟩
          have hj : j < i := by omega
          have hx2 := getm (PV.int .i64) H (i := j) (by omega)
          generalize H.getD j default = w at *
          by_cases hlev : (t : Int) ≤ w
          · try simp only [s0, s3, s6, s7, s8, hzi, hYL, hY, hx, hj, hx2, hlev, hwz1, or_false, false_or, Bool.and_self, Bool.and_true, Bool.true_and, Bool.and_false, Bool.false_and, Bool.not_not, Int.cast_ofNat_Int, beq_self_eq_true, Heap.set_same, Heap.set_set, Heap.kill_kset, Int.toNat_natCast, Int.natCast_nonneg, Int.ofNat_lt, Int.ofNat_le, Int.natCast_inj, pmC, pmE, pmS, pmV, pmK, pmQ, pmL, pmX, pmF, pmO, pmA, pmR, pmW, pmB, Option.isSome_some, ft, olds_ints, olds_bools, ↓reduceIte, Nat.reduceEqDiff, reduceCtorEq, Nat.reduceAdd, Nat.reduceMul, Nat.reduceLeDiff, Nat.reduceLT, Int.reduceLE, Int.reduceLT, Int.reduceEq, Int.reduceToNat, Nat.zero_mul, Nat.zero_add, Nat.mul_one, ne_eq, not_false_eq_true, not_true_eq_false, true_and, and_true, decide_true, decide_false, Bool.not_true, Bool.not_false, Bool.false_eq_true, and_self, Nat.add_zero]
            exact next7 (i - (z + 1)) _ _ (by omega) ⟨z + 1, rfl, rfl, by omega, by omega, by simp [put, s0], by simp [put, s3], by simp [put, s6], by simp [put, s7], by simp [put]⟩
          try simp only [s0, s3, s6, s7, s8, hzi, hYL, hY, hx, hj, hx2, hlev, hwz1, or_false, false_or, Bool.and_self, Bool.and_true, Bool.true_and, Bool.and_false, Bool.false_and, Bool.not_not, Int.cast_ofNat_Int, beq_self_eq_true, Heap.set_same, Heap.set_set, Heap.kill_kset, Int.toNat_natCast, Int.natCast_nonneg, Int.ofNat_lt, Int.ofNat_le, Int.natCast_inj, pmC, pmE, pmS, pmV, pmK, pmQ, pmL, pmX, pmF, pmO, pmA, pmR, pmW, pmB, Option.isSome_some, ft, olds_ints, olds_bools, ↓reduceIte, Nat.reduceEqDiff, reduceCtorEq, Nat.reduceAdd, Nat.reduceMul, Nat.reduceLeDiff, Nat.reduceLT, Int.reduceLE, Int.reduceLT, Int.reduceEq, Int.reduceToNat, Nat.zero_mul, Nat.zero_add, Nat.mul_one, ne_eq, not_false_eq_true, not_true_eq_false, true_and, and_true, decide_true, decide_false, Bool.not_true, Bool.not_false, Bool.false_eq_true, and_self, Nat.add_zero]
          rw [← hn1]
          refine oddR _ H (by omega) _ _ fun bb => ?_
          have hwz : IntKind.i64.wrap ((z : Int) - 1) = (z : Int) - 1 := wrap_in (by omega) (by omega)
          have fin8 : ∀ (Y' : List Int) (σ' : Sl) (h' : Heap), h'.f b = some (Y'.map (.int .i64)) → Y'.Perm (rng i) → h.le h' → σ' 0 = σ 0 → σ' 3 = σ 3 → σ' 6 = σ 6 → σ' 7 = .int .i64 ((if (lo : Int) < (z : Int) - 1 then (z : Int) - 1 else (lo : Int)) + 1) → K8 σ' h' := fun Y' σ' h' q1 q2 q3 q4 q5 q6 q7 => by
            by_cases e : (lo : Int) < (z : Int) - 1
            · rw [if_pos e] at q7
              exact next8 (i - z) _ _ (by omega) ⟨Y', z, rfl, hzi9, q1, q2, q3, q4.trans s0, q5.trans s3, q6.trans s6, by rw [q7]; congr 1; omega⟩
            · rw [if_neg e] at q7
              exact next8 (i - (lo + 1)) _ _ (by omega) ⟨Y', lo + 1, rfl, by omega, q1, q2, q3, q4.trans s0, q5.trans s3, q6.trans s6, by rw [q7]; rfl⟩
          have hwm : IntKind.i64.wrap ((if (lo : Int) < (z : Int) - 1 then (z : Int) - 1 else (lo : Int)) + 1) = (if (lo : Int) < (z : Int) - 1 then (z : Int) - 1 else (lo : Int)) + 1 := by split <;> exact wrap_in (by omega) (by omega)
          cases bb
          · try simp only [s0, s3, s6, s7, s8, hwz, hwm, or_false, false_or, Bool.and_self, Bool.and_true, Bool.true_and, Bool.and_false, Bool.false_and, Bool.not_not, Int.cast_ofNat_Int, beq_self_eq_true, Heap.set_same, Heap.set_set, Heap.kill_kset, Int.toNat_natCast, Int.natCast_nonneg, Int.ofNat_lt, Int.ofNat_le, Int.natCast_inj, pmC, pmE, pmS, pmV, pmK, pmQ, pmL, pmX, pmF, pmO, pmA, pmR, pmW, pmB, Option.isSome_some, ft, olds_ints, olds_bools, ↓reduceIte, Nat.reduceEqDiff, reduceCtorEq, Nat.reduceAdd, Nat.reduceMul, Nat.reduceLeDiff, Nat.reduceLT, Int.reduceLE, Int.reduceLT, Int.reduceEq, Int.reduceToNat, Nat.zero_mul, Nat.zero_add, Nat.mul_one, ne_eq, not_false_eq_true, not_true_eq_false, true_and, and_true, decide_true, decide_false, Bool.not_true, Bool.not_false, Bool.false_eq_true, and_self, Nat.add_zero]
            exact fin8 Y _ _ hY pY lh (by simp [put]) (by simp [put]) (by simp [put]) (by simp [put])
          · try simp only [s0, s3, s6, s7, s8, hwz, hwm, or_false, false_or, Bool.and_self, Bool.and_true, Bool.true_and, Bool.and_false, Bool.false_and, Bool.not_not, Int.cast_ofNat_Int, beq_self_eq_true, Heap.set_same, Heap.set_set, Heap.kill_kset, Int.toNat_natCast, Int.natCast_nonneg, Int.ofNat_lt, Int.ofNat_le, Int.natCast_inj, pmC, pmE, pmS, pmV, pmK, pmQ, pmL, pmX, pmF, pmO, pmA, pmR, pmW, pmB, Option.isSome_some, ft, olds_ints, olds_bools, ↓reduceIte, Nat.reduceEqDiff, reduceCtorEq, Nat.reduceAdd, Nat.reduceMul, Nat.reduceLeDiff, Nat.reduceLT, Int.reduceLE, Int.reduceLT, Int.reduceEq, Int.reduceToNat, Nat.zero_mul, Nat.zero_add, Nat.mul_one, ne_eq, not_false_eq_true, not_true_eq_false, true_and, and_true, decide_true, decide_false, Bool.not_true, Bool.not_false, Bool.false_eq_true, and_self, Nat.add_zero]
            rw [← hYl]
            refine turnR Y (by omega) b lo z (by omega) (by omega) _ hY fun Y' pY' => ?_
            try simp only [s0, s3, s6, s7, s8, hwz, hwm, or_false, false_or, Bool.and_self, Bool.and_true, Bool.true_and, Bool.and_false, Bool.false_and, Bool.not_not, Int.cast_ofNat_Int, beq_self_eq_true, Heap.set_same, Heap.set_set, Heap.kill_kset, Int.toNat_natCast, Int.natCast_nonneg, Int.ofNat_lt, Int.ofNat_le, Int.natCast_inj, pmC, pmE, pmS, pmV, pmK, pmQ, pmL, pmX, pmF, pmO, pmA, pmR, pmW, pmB, Option.isSome_some, ft, olds_ints, olds_bools, ↓reduceIte, Nat.reduceEqDiff, reduceCtorEq, Nat.reduceAdd, Nat.reduceMul, Nat.reduceLeDiff, Nat.reduceLT, Int.reduceLE, Int.reduceLT, Int.reduceEq, Int.reduceToNat, Nat.zero_mul, Nat.zero_add, Nat.mul_one, ne_eq, not_false_eq_true, not_true_eq_false, true_and, and_true, decide_true, decide_false, Bool.not_true, Bool.not_false, Bool.false_eq_true, and_self, Nat.add_zero]
            exact fin8 Y' _ _ (Heap.set_same _ _ _) (pY'.trans pY) (Heap.le_set lh hbn) (by simp [put]) (by simp [put]) (by simp [put]) (by simp [put])
        · have hnz : ¬ z < i := by omega
          try simp only [s0, s3, s6, s7, s8, hnz, or_false, false_or, Bool.and_self, Bool.and_true, Bool.true_and, Bool.and_false, Bool.false_and, Bool.not_not, Int.cast_ofNat_Int, beq_self_eq_true, Heap.set_same, Heap.set_set, Heap.kill_kset, Int.toNat_natCast, Int.natCast_nonneg, Int.ofNat_lt, Int.ofNat_le, Int.natCast_inj, pmC, pmE, pmS, pmV, pmK, pmQ, pmL, pmX, pmF, pmO, pmA, pmR, pmW, pmB, Option.isSome_some, ft, olds_ints, olds_bools, ↓reduceIte, Nat.reduceEqDiff, reduceCtorEq, Nat.reduceAdd, Nat.reduceMul, Nat.reduceLeDiff, Nat.reduceLT, Int.reduceLE, Int.reduceLT, Int.reduceEq, Int.reduceToNat, Nat.zero_mul, Nat.zero_add, Nat.mul_one, ne_eq, not_false_eq_true, not_true_eq_false, true_and, and_true, decide_true, decide_false, Bool.not_true, Bool.not_false, Bool.false_eq_true, and_self, Nat.add_zero]
          rw [← hn1]
          refine oddR _ H (by omega) _ _ fun bb => ?_
          have hwz : IntKind.i64.wrap ((z : Int) - 1) = (z : Int) - 1 := wrap_in (by omega) (by omega)
          have fin8 : ∀ (Y' : List Int) (σ' : Sl) (h' : Heap), h'.f b = some (Y'.map (.int .i64)) → Y'.Perm (rng i) → h.le h' → σ' 0 = σ 0 → σ' 3 = σ 3 → σ' 6 = σ 6 → σ' 7 = .int .i64 ((if (lo : Int) < (z : Int) - 1 then (z : Int) - 1 else (lo : Int)) + 1) → K8 σ' h' := fun Y' σ' h' q1 q2 q3 q4 q5 q6 q7 => by
            by_cases e : (lo : Int) < (z : Int) - 1
            · rw [if_pos e] at q7
              exact next8 (i - z) _ _ (by omega) ⟨Y', z, rfl, hzi9, q1, q2, q3, q4.trans s0, q5.trans s3, q6.trans s6, by rw [q7]; congr 1; omega⟩
            · rw [if_neg e] at q7
              exact next8 (i - (lo + 1)) _ _ (by omega) ⟨Y', lo + 1, rfl, by omega, q1, q2, q3, q4.trans s0, q5.trans s3, q6.trans s6, by rw [q7]; rfl⟩
          have hwm : IntKind.i64.wrap ((if (lo : Int) < (z : Int) - 1 then (z : Int) - 1 else (lo : Int)) + 1) = (if (lo : Int) < (z : Int) - 1 then (z : Int) - 1 else (lo : Int)) + 1 := by split <;> exact wrap_in (by omega) (by omega)
          cases bb
          · try simp only [s0, s3, s6, s7, s8, hwz, hwm, or_false, false_or, Bool.and_self, Bool.and_true, Bool.true_and, Bool.and_false, Bool.false_and, Bool.not_not, Int.cast_ofNat_Int, beq_self_eq_true, Heap.set_same, Heap.set_set, Heap.kill_kset, Int.toNat_natCast, Int.natCast_nonneg, Int.ofNat_lt, Int.ofNat_le, Int.natCast_inj, pmC, pmE, pmS, pmV, pmK, pmQ, pmL, pmX, pmF, pmO, pmA, pmR, pmW, pmB, Option.isSome_some, ft, olds_ints, olds_bools, ↓reduceIte, Nat.reduceEqDiff, reduceCtorEq, Nat.reduceAdd, Nat.reduceMul, Nat.reduceLeDiff, Nat.reduceLT, Int.reduceLE, Int.reduceLT, Int.reduceEq, Int.reduceToNat, Nat.zero_mul, Nat.zero_add, Nat.mul_one, ne_eq, not_false_eq_true, not_true_eq_false, true_and, and_true, decide_true, decide_false, Bool.not_true, Bool.not_false, Bool.false_eq_true, and_self, Nat.add_zero]
            exact fin8 Y _ _ hY pY lh (by simp [put]) (by simp [put]) (by simp [put]) (by simp [put])
          · try simp only [s0, s3, s6, s7, s8, hwz, hwm, or_false, false_or, Bool.and_self, Bool.and_true, Bool.true_and, Bool.and_false, Bool.false_and, Bool.not_not, Int.cast_ofNat_Int, beq_self_eq_true, Heap.set_same, Heap.set_set, Heap.kill_kset, Int.toNat_natCast, Int.natCast_nonneg, Int.ofNat_lt, Int.ofNat_le, Int.natCast_inj, pmC, pmE, pmS, pmV, pmK, pmQ, pmL, pmX, pmF, pmO, pmA, pmR, pmW, pmB, Option.isSome_some, ft, olds_ints, olds_bools, ↓reduceIte, Nat.reduceEqDiff, reduceCtorEq, Nat.reduceAdd, Nat.reduceMul, Nat.reduceLeDiff, Nat.reduceLT, Int.reduceLE, Int.reduceLT, Int.reduceEq, Int.reduceToNat, Nat.zero_mul, Nat.zero_add, Nat.mul_one, ne_eq, not_false_eq_true, not_true_eq_false, true_and, and_true, decide_true, decide_false, Bool.not_true, Bool.not_false, Bool.false_eq_true, and_self, Nat.add_zero]
            rw [← hYl]
            refine turnR Y (by omega) b lo z (by omega) (by omega) _ hY fun Y' pY' => ?_
            try simp only [s0, s3, s6, s7, s8, hwz, hwm, or_false, false_or, Bool.and_self, Bool.and_true, Bool.true_and, Bool.and_false, Bool.false_and, Bool.not_not, Int.cast_ofNat_Int, beq_self_eq_true, Heap.set_same, Heap.set_set, Heap.kill_kset, Int.toNat_natCast, Int.natCast_nonneg, Int.ofNat_lt, Int.ofNat_le, Int.natCast_inj, pmC, pmE, pmS, pmV, pmK, pmQ, pmL, pmX, pmF, pmO, pmA, pmR, pmW, pmB, Option.isSome_some, ft, olds_ints, olds_bools, ↓reduceIte, Nat.reduceEqDiff, reduceCtorEq, Nat.reduceAdd, Nat.reduceMul, Nat.reduceLeDiff, Nat.reduceLT, Int.reduceLE, Int.reduceLT, Int.reduceEq, Int.reduceToNat, Nat.zero_mul, Nat.zero_add, Nat.mul_one, ne_eq, not_false_eq_true, not_true_eq_false, true_and, and_true, decide_true, decide_false, Bool.not_true, Bool.not_false, Bool.false_eq_true, and_self, Nat.add_zero]
            exact fin8 Y' _ _ (Heap.set_same _ _ _) (pY'.trans pY) (Heap.le_set lh hbn) (by simp [put]) (by simp [put]) (by simp [put]) (by simp [put])
      · have e : lo = i := by omega
        subst e
        try simp only [s0, s3, s6, s7, hnl, hwt, or_false, false_or, Bool.and_self, Bool.and_true, Bool.true_and, Bool.and_false, Bool.false_and, Bool.not_not, Int.cast_ofNat_Int, beq_self_eq_true, Heap.set_same, Heap.set_set, Heap.kill_kset, Int.toNat_natCast, Int.natCast_nonneg, Int.ofNat_lt, Int.ofNat_le, Int.natCast_inj, pmC, pmE, pmS, pmV, pmK, pmQ, pmL, pmX, pmF, pmO, pmA, pmR, pmW, pmB, Option.isSome_some, ft, olds_ints, olds_bools, ↓reduceIte, Nat.reduceEqDiff, reduceCtorEq, Nat.reduceAdd, Nat.reduceMul, Nat.reduceLeDiff, Nat.reduceLT, Int.reduceLE, Int.reduceLT, Int.reduceEq, Int.reduceToNat, Nat.zero_mul, Nat.zero_add, Nat.mul_one, ne_eq, not_false_eq_true, not_true_eq_false, true_and, and_true, decide_true, decide_false, Bool.not_true, Bool.not_false, Bool.false_eq_true, and_self, Nat.add_zero]
        exact next9 (t - 1) _ _ (by omega) ⟨⟨Y, hY, pY⟩, lh, by simp [put, s0], by simp [put, s3], by simp [put], by omega⟩
    · have ht1' : ¬ (1 : Int) ≤ (t : Int) := by omega
      try simp only [s0, s3, s6, ht1', or_false, false_or, Bool.and_self, Bool.and_true, Bool.true_and, Bool.and_false, Bool.false_and, Bool.not_not, Int.cast_ofNat_Int, beq_self_eq_true, Heap.set_same, Heap.set_set, Heap.kill_kset, Int.toNat_natCast, Int.natCast_nonneg, Int.ofNat_lt, Int.ofNat_le, Int.natCast_inj, pmC, pmE, pmS, pmV, pmK, pmQ, pmL, pmX, pmF, pmO, pmA, pmR, pmW, pmB, Option.isSome_some, ft, olds_ints, olds_bools, ↓reduceIte, Nat.reduceEqDiff, reduceCtorEq, Nat.reduceAdd, Nat.reduceMul, Nat.reduceLeDiff, Nat.reduceLT, Int.reduceLE, Int.reduceLT, Int.reduceEq, Int.reduceToNat, Nat.zero_mul, Nat.zero_add, Nat.mul_one, ne_eq, not_false_eq_true, not_true_eq_false, true_and, and_true, decide_true, decide_false, Bool.not_true, Bool.not_false, Bool.false_eq_true, and_self, Nat.add_zero]
      have hYl : Y.length = i := by rw [pY.length_eq, rng_len]
      refine (Acc.buf hbn hY (by simp [hYl])).fin lh ?_
      rw [olds_ints]
      have k9 := k Y pY
      rw [hYl] at k9
      exact k9
end Go.Proofs.Ythoggjdkabhpkaa
