/-
  The law PickMany (P45.2).
-/
import Derived.Test.YthoggjdkabhpkaaPk9
namespace Go.Proofs.Ythoggjdkabhpkaa
open Go.Pm
set_option maxRecDepth 100000
set_option linter.unusedSimpArgs false
set_option linter.unusedVariables false

theorem sum_take (L : List (Int × Int)) {i : Nat} (h : i < L.length) : sumS (L.take (i + 1)) = sumS (L.take i) + ((L.getD i default).2 - (L.getD i default).1) := by
  have e : L.take (i + 1) = L.take i ++ [L.getD i default] := by
    have := take_succ_map (fun x : Int × Int => x) L h
    simpa using this
  rw [e, sumS_app]
  simp [sumS]
theorem law_PickMany (X : List Int) (hl : X.length ≤ 9223372036854775806) (lo8 n8 : Int) (hlo : 0 ≤ lo8 ∧ lo8 ≤ 255) (hn8 : 0 ≤ n8 ∧ n8 ≤ 255) (h : Heap) {K : PV → Heap → Prop} (k : K (.bool true) h) :
    CanP Try.prog 3 [.list false 1 X.length (X.map (.int .i64)), .int .u8 lo8, .int .u8 n8] h K := by
  refine e3 rfl ?_
  try simp only [c3, r3_0, r3_1, r3_2, r3_3, r3_4, r3_5, r3_6, r3_7, r3_8, r3_9, r3_10, r3_11, r3_12, r3_13, r3_14, r3_15, r3_16, r3_17, r3_18, r3_19, r3_20, r3_21, r3_22, r3_23, r3_24, r3_25, r3_26, or_false, false_or, Bool.and_self, Bool.and_true, Bool.true_and, Bool.and_false, Bool.false_and, Bool.not_not, Int.cast_ofNat_Int, beq_self_eq_true, Heap.set_same, Heap.set_set, Heap.kill_kset, Int.toNat_natCast, Int.natCast_nonneg, Int.ofNat_lt, Int.ofNat_le, Int.natCast_inj, pmC, pmE, pmS, pmV, pmK, pmQ, pmL, pmX, pmF, pmO, pmA, pmR, pmW, pmB, Option.isSome_some, ft, olds_ints, olds_bools, ↓reduceIte, Nat.reduceEqDiff, reduceCtorEq, Nat.reduceAdd, Nat.reduceMul, Nat.reduceLeDiff, Nat.reduceLT, Int.reduceLE, Int.reduceLT, Int.reduceEq, Int.reduceToNat, Nat.zero_mul, Nat.zero_add, Nat.mul_one, ne_eq, not_false_eq_true, not_true_eq_false, true_and, and_true, decide_true, decide_false, Bool.not_true, Bool.not_false, Bool.false_eq_true, and_self, Nat.add_zero]
  by_cases h1 : 100 < X.length
  · have h1' : (100 : Int) < (X.length : Int) := by omega
    try simp only [h1', or_false, false_or, Bool.and_self, Bool.and_true, Bool.true_and, Bool.and_false, Bool.false_and, Bool.not_not, Int.cast_ofNat_Int, beq_self_eq_true, Heap.set_same, Heap.set_set, Heap.kill_kset, Int.toNat_natCast, Int.natCast_nonneg, Int.ofNat_lt, Int.ofNat_le, Int.natCast_inj, pmC, pmE, pmS, pmV, pmK, pmQ, pmL, pmX, pmF, pmO, pmA, pmR, pmW, pmB, Option.isSome_some, ft, olds_ints, olds_bools, ↓reduceIte, Nat.reduceEqDiff, reduceCtorEq, Nat.reduceAdd, Nat.reduceMul, Nat.reduceLeDiff, Nat.reduceLT, Int.reduceLE, Int.reduceLT, Int.reduceEq, Int.reduceToNat, Nat.zero_mul, Nat.zero_add, Nat.mul_one, ne_eq, not_false_eq_true, not_true_eq_false, true_and, and_true, decide_true, decide_false, Bool.not_true, Bool.not_false, Bool.false_eq_true, and_self, Nat.add_zero]
    refine awake _ ?_
    try simp only [or_false, false_or, Bool.and_self, Bool.and_true, Bool.true_and, Bool.and_false, Bool.false_and, Bool.not_not, Int.cast_ofNat_Int, beq_self_eq_true, Heap.set_same, Heap.set_set, Heap.kill_kset, Int.toNat_natCast, Int.natCast_nonneg, Int.ofNat_lt, Int.ofNat_le, Int.natCast_inj, pmC, pmE, pmS, pmV, pmK, pmQ, pmL, pmX, pmF, pmO, pmA, pmR, pmW, pmB, Option.isSome_some, ft, olds_ints, olds_bools, ↓reduceIte, Nat.reduceEqDiff, reduceCtorEq, Nat.reduceAdd, Nat.reduceMul, Nat.reduceLeDiff, Nat.reduceLT, Int.reduceLE, Int.reduceLT, Int.reduceEq, Int.reduceToNat, Nat.zero_mul, Nat.zero_add, Nat.mul_one, ne_eq, not_false_eq_true, not_true_eq_false, true_and, and_true, decide_true, decide_false, Bool.not_true, Bool.not_false, Bool.false_eq_true, and_self, Nat.add_zero]
    exact finK_rf k
  have h1' : ¬ (100 : Int) < (X.length : Int) := by omega
  by_cases h0 : X.length = 0
  · have h0' : (X.length : Int) = 0 := by omega
    try simp only [h1', h0', or_false, false_or, Bool.and_self, Bool.and_true, Bool.true_and, Bool.and_false, Bool.false_and, Bool.not_not, Int.cast_ofNat_Int, beq_self_eq_true, Heap.set_same, Heap.set_set, Heap.kill_kset, Int.toNat_natCast, Int.natCast_nonneg, Int.ofNat_lt, Int.ofNat_le, Int.natCast_inj, pmC, pmE, pmS, pmV, pmK, pmQ, pmL, pmX, pmF, pmO, pmA, pmR, pmW, pmB, Option.isSome_some, ft, olds_ints, olds_bools, ↓reduceIte, Nat.reduceEqDiff, reduceCtorEq, Nat.reduceAdd, Nat.reduceMul, Nat.reduceLeDiff, Nat.reduceLT, Int.reduceLE, Int.reduceLT, Int.reduceEq, Int.reduceToNat, Nat.zero_mul, Nat.zero_add, Nat.mul_one, ne_eq, not_false_eq_true, not_true_eq_false, true_and, and_true, decide_true, decide_false, Bool.not_true, Bool.not_false, Bool.false_eq_true, and_self, Nat.add_zero]
    refine awake _ ?_
    try simp only [or_false, false_or, Bool.and_self, Bool.and_true, Bool.true_and, Bool.and_false, Bool.false_and, Bool.not_not, Int.cast_ofNat_Int, beq_self_eq_true, Heap.set_same, Heap.set_set, Heap.kill_kset, Int.toNat_natCast, Int.natCast_nonneg, Int.ofNat_lt, Int.ofNat_le, Int.natCast_inj, pmC, pmE, pmS, pmV, pmK, pmQ, pmL, pmX, pmF, pmO, pmA, pmR, pmW, pmB, Option.isSome_some, ft, olds_ints, olds_bools, ↓reduceIte, Nat.reduceEqDiff, reduceCtorEq, Nat.reduceAdd, Nat.reduceMul, Nat.reduceLeDiff, Nat.reduceLT, Int.reduceLE, Int.reduceLT, Int.reduceEq, Int.reduceToNat, Nat.zero_mul, Nat.zero_add, Nat.mul_one, ne_eq, not_false_eq_true, not_true_eq_false, true_and, and_true, decide_true, decide_false, Bool.not_true, Bool.not_false, Bool.false_eq_true, and_self, Nat.add_zero]
    exact finK_rf k
  have h0' : ¬ (X.length : Int) = 0 := by omega
  obtain ⟨L, hL, hLt⟩ : ∃ L : Nat, (IntKind.i64.wrap lo8).tmod (X.length : Int) = L ∧ L < X.length := by
    rw [wrap_in (by omega) (by omega), Int.tmod_eq_emod_of_nonneg hlo.1]
    have a1 := Int.emod_nonneg lo8 (show (X.length : Int) ≠ 0 by omega)
    have a2 := Int.emod_lt_of_pos lo8 (show (0 : Int) < X.length by omega)
    exact ⟨(lo8 % (X.length : Int)).toNat, by omega, by omega⟩
  obtain ⟨N, hN, hNt⟩ : ∃ N : Nat, IntKind.i64.wrap (n8.tmod 40) = N ∧ N < 40 := by
    rw [Int.tmod_eq_emod_of_nonneg hn8.1, wrap_in (by omega) (by omega)]
    exact ⟨(n8 % 40).toNat, by omega, by omega⟩
  have hc1 : IntKind.i64.wrap ((L : Int) + 1) = ((L + 1 : Nat) : Int) := by rw [wrap_in (by omega) (by omega)]; omega
  have hc2 : IntKind.i64.wrap (((L + 1 : Nat) : Int) + (N : Int)) = ((L + 1 + N : Nat) : Int) := by rw [wrap_in (by omega) (by omega)]; omega
  obtain ⟨H, hH, hH1, hH2⟩ : ∃ H : Nat, (if X.length < L + 1 + N then (X.length : Int) else ((L + 1 + N : Nat) : Int)) = H ∧ L < H ∧ H ≤ X.length := by
    split
    · exact ⟨X.length, rfl, hLt, Nat.le_refl _⟩
    · exact ⟨L + 1 + N, rfl, by omega, by omega⟩
  try simp only [h1', h0', hL, hN, hc1, hc2, hH, or_false, false_or, Bool.and_self, Bool.and_true, Bool.true_and, Bool.and_false, Bool.false_and, Bool.not_not, Int.cast_ofNat_Int, beq_self_eq_true, Heap.set_same, Heap.set_set, Heap.kill_kset, Int.toNat_natCast, Int.natCast_nonneg, Int.ofNat_lt, Int.ofNat_le, Int.natCast_inj, pmC, pmE, pmS, pmV, pmK, pmQ, pmL, pmX, pmF, pmO, pmA, pmR, pmW, pmB, Option.isSome_some, ft, olds_ints, olds_bools, ↓reduceIte, Nat.reduceEqDiff, reduceCtorEq, Nat.reduceAdd, Nat.reduceMul, Nat.reduceLeDiff, Nat.reduceLT, Int.reduceLE, Int.reduceLT, Int.reduceEq, Int.reduceToNat, Nat.zero_mul, Nat.zero_add, Nat.mul_one, ne_eq, not_false_eq_true, not_true_eq_false, true_and, and_true, decide_true, decide_false, Bool.not_true, Bool.not_false, Bool.false_eq_true, and_self, Nat.add_zero]
  intro b hb
  rw [Heap.kill_none hb]
  refine VisualR _ X (by omega) _ fun o po => ?_
  obtain ⟨ol, ob⟩ := perm_order po
  have e1 : mayZ o [((L : Int), (H : Int))] = 0 := by
    simp [mayZ, ob, wrongS, ol]; omega
  have sc := seen_count po (Nat.le_of_lt hH1) hH2
  have pc := pick_count po (Nat.le_of_lt hH1) hH2
  try simp only [or_false, false_or, Bool.and_self, Bool.and_true, Bool.true_and, Bool.and_false, Bool.false_and, Bool.not_not, Int.cast_ofNat_Int, beq_self_eq_true, Heap.set_same, Heap.set_set, Heap.kill_kset, Int.toNat_natCast, Int.natCast_nonneg, Int.ofNat_lt, Int.ofNat_le, Int.natCast_inj, pmC, pmE, pmS, pmV, pmK, pmQ, pmL, pmX, pmF, pmO, pmA, pmR, pmW, pmB, Option.isSome_some, ft, olds_ints, olds_bools, ↓reduceIte, Nat.reduceEqDiff, reduceCtorEq, Nat.reduceAdd, Nat.reduceMul, Nat.reduceLeDiff, Nat.reduceLT, Int.reduceLE, Int.reduceLT, Int.reduceEq, Int.reduceToNat, Nat.zero_mul, Nat.zero_add, Nat.mul_one, ne_eq, not_false_eq_true, not_true_eq_false, true_and, and_true, decide_true, decide_false, Bool.not_true, Bool.not_false, Bool.false_eq_true, and_self, Nat.add_zero]
  refine Seen _ o (by omega) ((L : Int), (H : Int)) _ ?_
  rw [seenP, spansP, if_pos e1]
  try simp only [old_sp, or_false, false_or, Bool.and_self, Bool.and_true, Bool.true_and, Bool.and_false, Bool.false_and, Bool.not_not, Int.cast_ofNat_Int, beq_self_eq_true, Heap.set_same, Heap.set_set, Heap.kill_kset, Int.toNat_natCast, Int.natCast_nonneg, Int.ofNat_lt, Int.ofNat_le, Int.natCast_inj, pmC, pmE, pmS, pmV, pmK, pmQ, pmL, pmX, pmF, pmO, pmA, pmR, pmW, pmB, Option.isSome_some, ft, olds_ints, olds_bools, ↓reduceIte, Nat.reduceEqDiff, reduceCtorEq, Nat.reduceAdd, Nat.reduceMul, Nat.reduceLeDiff, Nat.reduceLT, Int.reduceLE, Int.reduceLT, Int.reduceEq, Int.reduceToNat, Nat.zero_mul, Nat.zero_add, Nat.mul_one, ne_eq, not_false_eq_true, not_true_eq_false, true_and, and_true, decide_true, decide_false, Bool.not_true, Bool.not_false, Bool.false_eq_true, and_self, Nat.add_zero]
  refine Picked _ o (by omega) ((L : Int), (H : Int)) _ ?_
  rw [pickP, spansP, if_pos e1]
  obtain ⟨s1, s2⟩ := spnI_in (seenB o ((L : Int), (H : Int))) (seenB o ((L : Int), (H : Int))).length
  obtain ⟨t1, t2⟩ := spnI_in (pickB o ((L : Int), (H : Int))) (pickB o ((L : Int), (H : Int))).length
  rw [sc] at s1
  rw [pc] at t1
  have hsl := (spnI_ok (seenB o ((L : Int), (H : Int))) (seenB o ((L : Int), (H : Int))).length).2.2
  have hpl := (spnI_ok (pickB o ((L : Int), (H : Int))) (pickB o ((L : Int), (H : Int))).length).2.2
  have sbl : (seenB o ((L : Int), (H : Int))).length = o.length := by simp [seenB]
  rw [pickB_len] at hpl t1 t2
  rw [sbl] at hsl s1 s2
  have sbg : ∀ k : Nat, k < o.length → (seenB o ((L : Int), (H : Int))).getD k default = hasB (o.getD k default) ((L : Int), (H : Int)) := fun k hk => by simp [seenB, List.getD, hk]
  unfold spnT
  rw [sbl, pickB_len]
  clear sc pc sbl
  generalize seenB o ((L : Int), (H : Int)) = B1 at *
  generalize pickB o ((L : Int), (H : Int)) = B2 at *
  generalize spnI B1 o.length = L1 at *
  generalize spnI B2 o.length = L2 at *
  try simp only [old_sp, or_false, false_or, Bool.and_self, Bool.and_true, Bool.true_and, Bool.and_false, Bool.false_and, Bool.not_not, Int.cast_ofNat_Int, beq_self_eq_true, Heap.set_same, Heap.set_set, Heap.kill_kset, Int.toNat_natCast, Int.natCast_nonneg, Int.ofNat_lt, Int.ofNat_le, Int.natCast_inj, pmC, pmE, pmS, pmV, pmK, pmQ, pmL, pmX, pmF, pmO, pmA, pmR, pmW, pmB, Option.isSome_some, ft, olds_ints, olds_bools, ↓reduceIte, Nat.reduceEqDiff, reduceCtorEq, Nat.reduceAdd, Nat.reduceMul, Nat.reduceLeDiff, Nat.reduceLT, Int.reduceLE, Int.reduceLT, Int.reduceEq, Int.reduceToNat, Nat.zero_mul, Nat.zero_add, Nat.mul_one, ne_eq, not_false_eq_true, not_true_eq_false, true_and, and_true, decide_true, decide_false, Bool.not_true, Bool.not_false, Bool.false_eq_true, and_self, Nat.add_zero]
  have hbd1 : ∀ i, sumS (L1.take i) ≤ 1000000 * (i : Int) ∧ 0 ≤ sumS (L1.take i) := fun i => by
    have : ∀ (M : List (Int × Int)), (∀ q ∈ M, q.1 < q.2 ∧ q.2 - q.1 ≤ 1000000) → sumS M ≤ 1000000 * (M.length : Int) ∧ 0 ≤ sumS M := fun M => by
      induction M with
      | nil => intro _; simp [sumS]
      | cons a M ih =>
        intro hM
        have a1 := hM a (by simp)
        have a2 := ih (fun q hq => hM q (by simp [hq]))
        simp only [sumS, List.map_cons, List.sum_cons, List.length_cons] at a2 ⊢
        omega
    have b := this (L1.take i) (fun q hq => by have := s2 q (List.mem_of_mem_take hq); omega)
    have : (L1.take i).length ≤ i := by simp; omega
    omega
  have hbd2 : ∀ i, sumS (L2.take i) ≤ 1000000 * (i : Int) ∧ 0 ≤ sumS (L2.take i) := fun i => by
    have : ∀ (M : List (Int × Int)), (∀ q ∈ M, q.1 < q.2 ∧ q.2 - q.1 ≤ 1000000) → sumS M ≤ 1000000 * (M.length : Int) ∧ 0 ≤ sumS M := fun M => by
      induction M with
      | nil => intro _; simp [sumS]
      | cons a M ih =>
        intro hM
        have a1 := hM a (by simp)
        have a2 := ih (fun q hq => hM q (by simp [hq]))
        simp only [sumS, List.map_cons, List.sum_cons, List.length_cons] at a2 ⊢
        omega
    have b := this (L2.take i) (fun q hq => by have := t2 q (List.mem_of_mem_take hq); omega)
    have : (L2.take i).length ≤ i := by simp; omega
    omega
  refine pwp_up L1.length (fun i σ h' => h' = h ∧ (∃ fr, σ 7 = .fptr fr [.int .i64 L, .int .i64 H] 0) ∧ σ 8 = .list true 1 o.length (o.map (.int .i64)) ∧ σ 11 = .list true 2 L2.length (L2.flatMap sp) ∧ σ 13 = .int .i64 (sumS (L1.take i)) ∧ σ 14 = .int .i64 0 ∧ σ 66 = .list true 2 L1.length (L1.flatMap sp) ∧ σ 67 = .int .i64 L1.length ∧ σ 68 = .int .i64 i) ?_ ?_
  · exact ⟨rfl, ⟨_, by simp [put]; rfl⟩, by simp [put], by simp [put], by simp [put, sumS], by simp [put], by simp [put], by simp [put], by simp [put]⟩
  rintro i σ h' K' hi ⟨rfl, ⟨fr7, z7⟩, z8, z11, z13, z14, z66, z67, z68⟩ next
  rcases Nat.lt_or_ge i L1.length with hlt | hge
  · have hw : IntKind.i64.wrap ((i : Int) + 1) = (i : Int) + 1 := wrap_in (by omega) (by omega)
    have hx := flat_at sp 2 sp_len L1 hlt
    have hx2 : i * 2 + 2 ≤ (L1.flatMap sp).length := by rw [flat_length sp 2 sp_len]; omega
    have hq := s2 _ (get_mem L1 hlt)
    have hst := sum_take L1 hlt
    have hbi := hbd1 i
    have hbj := hbd1 (i + 1)
    generalize L1.getD i default = q at *
    try simp only [hx, hx2, hlt, sp, z7, z8, z13, z66, z67, z68, or_false, false_or, Bool.and_self, Bool.and_true, Bool.true_and, Bool.and_false, Bool.false_and, Bool.not_not, Int.cast_ofNat_Int, beq_self_eq_true, Heap.set_same, Heap.set_set, Heap.kill_kset, Int.toNat_natCast, Int.natCast_nonneg, Int.ofNat_lt, Int.ofNat_le, Int.natCast_inj, pmC, pmE, pmS, pmV, pmK, pmQ, pmL, pmX, pmF, pmO, pmA, pmR, pmW, pmB, Option.isSome_some, ft, olds_ints, olds_bools, ↓reduceIte, Nat.reduceEqDiff, reduceCtorEq, Nat.reduceAdd, Nat.reduceMul, Nat.reduceLeDiff, Nat.reduceLT, Int.reduceLE, Int.reduceLT, Int.reduceEq, Int.reduceToNat, Nat.zero_mul, Nat.zero_add, Nat.mul_one, ne_eq, not_false_eq_true, not_true_eq_false, true_and, and_true, decide_true, decide_false, Bool.not_true, Bool.not_false, Bool.false_eq_true, and_self, Nat.add_zero]
    intro b hb
    rw [Heap.kill_none hb]
    refine Size _ _ (by omega) _ ?_
    have hsz : sizeZ q.1 q.2 = q.2 - q.1 := by simp [sizeZ, hq.1, hq.2.1]
    have hws : IntKind.i64.wrap (sumS (L1.take i) + (q.2 - q.1)) = sumS (L1.take (i + 1)) := by rw [wrap_in (by omega) (by omega), hst]
    rw [hsz]
    try simp only [z7, z8, z13, z66, z67, z68, hws, or_false, false_or, Bool.and_self, Bool.and_true, Bool.true_and, Bool.and_false, Bool.false_and, Bool.not_not, Int.cast_ofNat_Int, beq_self_eq_true, Heap.set_same, Heap.set_set, Heap.kill_kset, Int.toNat_natCast, Int.natCast_nonneg, Int.ofNat_lt, Int.ofNat_le, Int.natCast_inj, pmC, pmE, pmS, pmV, pmK, pmQ, pmL, pmX, pmF, pmO, pmA, pmR, pmW, pmB, Option.isSome_some, ft, olds_ints, olds_bools, ↓reduceIte, Nat.reduceEqDiff, reduceCtorEq, Nat.reduceAdd, Nat.reduceMul, Nat.reduceLeDiff, Nat.reduceLT, Int.reduceLE, Int.reduceLT, Int.reduceEq, Int.reduceToNat, Nat.zero_mul, Nat.zero_add, Nat.mul_one, ne_eq, not_false_eq_true, not_true_eq_false, true_and, and_true, decide_true, decide_false, Bool.not_true, Bool.not_false, Bool.false_eq_true, and_self, Nat.add_zero]
    obtain ⟨a, ha⟩ : ∃ a : Nat, q.1 = a := ⟨q.1.toNat, by omega⟩
    obtain ⟨c, hc⟩ : ∃ c : Nat, q.2 = ((a + c : Nat) : Int) := ⟨(q.2 - q.1).toNat, by omega⟩
    refine pwp_up c (fun j σ h9 => h9 = h' ∧ (∃ fr, σ 7 = .fptr fr [.int .i64 L, .int .i64 H] 0) ∧ σ 8 = .list true 1 o.length (o.map (.int .i64)) ∧ σ 11 = .list true 2 L2.length (L2.flatMap sp) ∧ σ 13 = .int .i64 (sumS (L1.take (i + 1))) ∧ σ 14 = .int .i64 0
      ∧ (∃ fr, σ 16 = .fptr fr [.int .i64 q.1, .int .i64 q.2] 0) ∧ σ 17 = .int .i64 ((a + j : Nat) : Int) ∧ σ 66 = .list true 2 L1.length (L1.flatMap sp) ∧ σ 67 = .int .i64 L1.length ∧ σ 68 = .int .i64 i) ?_ ?_
    · exact ⟨rfl, ⟨fr7, by simp [put, z7]⟩, by simp [put, z8], by simp [put, z11], by simp [put], by simp [put, z14], ⟨_, by simp [put]; rfl⟩, by simp [put, ha], by simp [put, z66], by simp [put, z67], by simp [put, z68]⟩
    clear z7 z8 z11 z13 z14 z66 z67 z68
    rintro j σ h9 K9 hj ⟨rfl, ⟨fr7, z7⟩, z8, z11, z13, z14, ⟨fr16, z16⟩, z17, z66, z67, z68⟩ next9
    rcases Nat.lt_or_ge j c with hjc | hjc
    · have hw2 : IntKind.i64.wrap (((a + j : Nat) : Int) + 1) = ((a + (j + 1) : Nat) : Int) := by rw [wrap_in (by omega) (by omega)]; omega
      have hq2 : ((a + j : Nat) : Int) < q.2 := by omega
      have hao : a + j < o.length := by omega
      have hB := hq.2.2.2 (a + j) (by omega) hq2
      rw [sbg _ hao, hasB, decide_eq_true_eq] at hB
      have hx3 := getm (PV.int .i64) o hao
      generalize o.getD (a + j) default = u at *
      have hn0 : ¬ ((a + j : Nat) : Int) < 0 := by omega
      have hno : ¬ (o.length : Int) ≤ ((a + j : Nat) : Int) := by omega
      try simp only [z7, z8, z13, z16, z17, hq2, hao, hx3, hn0, hno, or_false, false_or, Bool.and_self, Bool.and_true, Bool.true_and, Bool.and_false, Bool.false_and, Bool.not_not, Int.cast_ofNat_Int, beq_self_eq_true, Heap.set_same, Heap.set_set, Heap.kill_kset, Int.toNat_natCast, Int.natCast_nonneg, Int.ofNat_lt, Int.ofNat_le, Int.natCast_inj, pmC, pmE, pmS, pmV, pmK, pmQ, pmL, pmX, pmF, pmO, pmA, pmR, pmW, pmB, Option.isSome_some, ft, olds_ints, olds_bools, ↓reduceIte, Nat.reduceEqDiff, reduceCtorEq, Nat.reduceAdd, Nat.reduceMul, Nat.reduceLeDiff, Nat.reduceLT, Int.reduceLE, Int.reduceLT, Int.reduceEq, Int.reduceToNat, Nat.zero_mul, Nat.zero_add, Nat.mul_one, ne_eq, not_false_eq_true, not_true_eq_false, true_and, and_true, decide_true, decide_false, Bool.not_true, Bool.not_false, Bool.false_eq_true, and_self, Nat.add_zero]
      refine ⟨_, Has _ _ _ _ ⟨rfl, rfl⟩, ?_⟩
      have hB' : decide ((L : Int) ≤ u ∧ u < (H : Int)) = true := decide_eq_true hB
      rw [hB']
      try simp only [z17, hw2, or_false, false_or, Bool.and_self, Bool.and_true, Bool.true_and, Bool.and_false, Bool.false_and, Bool.not_not, Int.cast_ofNat_Int, beq_self_eq_true, Heap.set_same, Heap.set_set, Heap.kill_kset, Int.toNat_natCast, Int.natCast_nonneg, Int.ofNat_lt, Int.ofNat_le, Int.natCast_inj, pmC, pmE, pmS, pmV, pmK, pmQ, pmL, pmX, pmF, pmO, pmA, pmR, pmW, pmB, Option.isSome_some, ft, olds_ints, olds_bools, ↓reduceIte, Nat.reduceEqDiff, reduceCtorEq, Nat.reduceAdd, Nat.reduceMul, Nat.reduceLeDiff, Nat.reduceLT, Int.reduceLE, Int.reduceLT, Int.reduceEq, Int.reduceToNat, Nat.zero_mul, Nat.zero_add, Nat.mul_one, ne_eq, not_false_eq_true, not_true_eq_false, true_and, and_true, decide_true, decide_false, Bool.not_true, Bool.not_false, Bool.false_eq_true, and_self, Nat.add_zero]
      exact next9 hjc _ _ ⟨rfl, ⟨fr7, by simp [put, z7]⟩, by simp [put, z8], by simp [put, z11], by simp [put, z13], by simp [put, z14], ⟨fr16, by simp [put, z16]⟩, by simp [put], by simp [put, z66], by simp [put, z67], by simp [put, z68]⟩
    · have e : j = c := by omega
      subst e
      have hq2 : ¬ ((a + j : Nat) : Int) < q.2 := by omega
      try simp only [z7, z8, z13, z16, z17, z68, hq2, hw, or_false, false_or, Bool.and_self, Bool.and_true, Bool.true_and, Bool.and_false, Bool.false_and, Bool.not_not, Int.cast_ofNat_Int, beq_self_eq_true, Heap.set_same, Heap.set_set, Heap.kill_kset, Int.toNat_natCast, Int.natCast_nonneg, Int.ofNat_lt, Int.ofNat_le, Int.natCast_inj, pmC, pmE, pmS, pmV, pmK, pmQ, pmL, pmX, pmF, pmO, pmA, pmR, pmW, pmB, Option.isSome_some, ft, olds_ints, olds_bools, ↓reduceIte, Nat.reduceEqDiff, reduceCtorEq, Nat.reduceAdd, Nat.reduceMul, Nat.reduceLeDiff, Nat.reduceLT, Int.reduceLE, Int.reduceLT, Int.reduceEq, Int.reduceToNat, Nat.zero_mul, Nat.zero_add, Nat.mul_one, ne_eq, not_false_eq_true, not_true_eq_false, true_and, and_true, decide_true, decide_false, Bool.not_true, Bool.not_false, Bool.false_eq_true, and_self, Nat.add_zero]
      exact next hlt _ _ ⟨rfl, ⟨fr7, by simp [put, z7]⟩, by simp [put, z8], by simp [put, z11], by simp [put, z13], by simp [put, z14], by simp [put, z66], by simp [put, z67], by simp [put]⟩
  · have e : i = L1.length := by omega
    subst e
    have hnl := Nat.lt_irrefl L1.length
    try simp only [z67, z68, hnl, z11, or_false, false_or, Bool.and_self, Bool.and_true, Bool.true_and, Bool.and_false, Bool.false_and, Bool.not_not, Int.cast_ofNat_Int, beq_self_eq_true, Heap.set_same, Heap.set_set, Heap.kill_kset, Int.toNat_natCast, Int.natCast_nonneg, Int.ofNat_lt, Int.ofNat_le, Int.natCast_inj, pmC, pmE, pmS, pmV, pmK, pmQ, pmL, pmX, pmF, pmO, pmA, pmR, pmW, pmB, Option.isSome_some, ft, olds_ints, olds_bools, ↓reduceIte, Nat.reduceEqDiff, reduceCtorEq, Nat.reduceAdd, Nat.reduceMul, Nat.reduceLeDiff, Nat.reduceLT, Int.reduceLE, Int.reduceLT, Int.reduceEq, Int.reduceToNat, Nat.zero_mul, Nat.zero_add, Nat.mul_one, ne_eq, not_false_eq_true, not_true_eq_false, true_and, and_true, decide_true, decide_false, Bool.not_true, Bool.not_false, Bool.false_eq_true, and_self, Nat.add_zero]
    rw [List.take_length, s1] at z13
    refine pwp_up L2.length (fun i σ h9 => h9 = h' ∧ (∃ fr, σ 7 = .fptr fr [.int .i64 L, .int .i64 H] 0) ∧ σ 13 = .int .i64 ((H - L : Nat) : Int) ∧ σ 14 = .int .i64 (sumS (L2.take i)) ∧ σ 102 = .list true 2 L2.length (L2.flatMap sp) ∧ σ 103 = .int .i64 L2.length ∧ σ 104 = .int .i64 i) ?_ ?_
    · exact ⟨rfl, ⟨fr7, by simp [put, z7]⟩, by simp [put, z13], by simp [put, z14, sumS], by simp [put, z11], by simp [put], by simp [put]⟩
    clear z7 z8 z11 z13 z14 z66 z67 z68 next
    rintro i σ h9 K9 hi ⟨rfl, ⟨fr7, z7⟩, z13, z14, z102, z103, z104⟩ next
    rcases Nat.lt_or_ge i L2.length with hlt | hge
    · have hw : IntKind.i64.wrap ((i : Int) + 1) = (i : Int) + 1 := wrap_in (by omega) (by omega)
      have hx := flat_at sp 2 sp_len L2 hlt
      have hx2 : i * 2 + 2 ≤ (L2.flatMap sp).length := by rw [flat_length sp 2 sp_len]; omega
      have hq := t2 _ (get_mem L2 hlt)
      have hst := sum_take L2 hlt
      have hbi := hbd2 i
      have hbj := hbd2 (i + 1)
      generalize L2.getD i default = q at *
      try simp only [hx, hx2, hlt, sp, z7, z13, z14, z102, z103, z104, or_false, false_or, Bool.and_self, Bool.and_true, Bool.true_and, Bool.and_false, Bool.false_and, Bool.not_not, Int.cast_ofNat_Int, beq_self_eq_true, Heap.set_same, Heap.set_set, Heap.kill_kset, Int.toNat_natCast, Int.natCast_nonneg, Int.ofNat_lt, Int.ofNat_le, Int.natCast_inj, pmC, pmE, pmS, pmV, pmK, pmQ, pmL, pmX, pmF, pmO, pmA, pmR, pmW, pmB, Option.isSome_some, ft, olds_ints, olds_bools, ↓reduceIte, Nat.reduceEqDiff, reduceCtorEq, Nat.reduceAdd, Nat.reduceMul, Nat.reduceLeDiff, Nat.reduceLT, Int.reduceLE, Int.reduceLT, Int.reduceEq, Int.reduceToNat, Nat.zero_mul, Nat.zero_add, Nat.mul_one, ne_eq, not_false_eq_true, not_true_eq_false, true_and, and_true, decide_true, decide_false, Bool.not_true, Bool.not_false, Bool.false_eq_true, and_self, Nat.add_zero]
      intro b hb
      rw [Heap.kill_none hb]
      try simp only [or_false, false_or, Bool.and_self, Bool.and_true, Bool.true_and, Bool.and_false, Bool.false_and, Bool.not_not, Int.cast_ofNat_Int, beq_self_eq_true, Heap.set_same, Heap.set_set, Heap.kill_kset, Int.toNat_natCast, Int.natCast_nonneg, Int.ofNat_lt, Int.ofNat_le, Int.natCast_inj, pmC, pmE, pmS, pmV, pmK, pmQ, pmL, pmX, pmF, pmO, pmA, pmR, pmW, pmB, Option.isSome_some, ft, olds_ints, olds_bools, ↓reduceIte, Nat.reduceEqDiff, reduceCtorEq, Nat.reduceAdd, Nat.reduceMul, Nat.reduceLeDiff, Nat.reduceLT, Int.reduceLE, Int.reduceLT, Int.reduceEq, Int.reduceToNat, Nat.zero_mul, Nat.zero_add, Nat.mul_one, ne_eq, not_false_eq_true, not_true_eq_false, true_and, and_true, decide_true, decide_false, Bool.not_true, Bool.not_false, Bool.false_eq_true, and_self, Nat.add_zero]
      refine Size _ _ (by omega) _ ?_
      have hsz : sizeZ q.1 q.2 = q.2 - q.1 := by simp [sizeZ, hq.1, hq.2.1]
      have hws : IntKind.i64.wrap (sumS (L2.take i) + (q.2 - q.1)) = sumS (L2.take (i + 1)) := by rw [wrap_in (by omega) (by omega), hst]
      rw [hsz]
      try simp only [z7, z13, z14, z102, z103, z104, hws, hw, or_false, false_or, Bool.and_self, Bool.and_true, Bool.true_and, Bool.and_false, Bool.false_and, Bool.not_not, Int.cast_ofNat_Int, beq_self_eq_true, Heap.set_same, Heap.set_set, Heap.kill_kset, Int.toNat_natCast, Int.natCast_nonneg, Int.ofNat_lt, Int.ofNat_le, Int.natCast_inj, pmC, pmE, pmS, pmV, pmK, pmQ, pmL, pmX, pmF, pmO, pmA, pmR, pmW, pmB, Option.isSome_some, ft, olds_ints, olds_bools, ↓reduceIte, Nat.reduceEqDiff, reduceCtorEq, Nat.reduceAdd, Nat.reduceMul, Nat.reduceLeDiff, Nat.reduceLT, Int.reduceLE, Int.reduceLT, Int.reduceEq, Int.reduceToNat, Nat.zero_mul, Nat.zero_add, Nat.mul_one, ne_eq, not_false_eq_true, not_true_eq_false, true_and, and_true, decide_true, decide_false, Bool.not_true, Bool.not_false, Bool.false_eq_true, and_self, Nat.add_zero]
      exact next hlt _ _ ⟨rfl, ⟨fr7, by simp [put, z7]⟩, by simp [put, z13], by simp [put], by simp [put, z102], by simp [put, z103], by simp [put]⟩
    · have e : i = L2.length := by omega
      subst e
      have hnl := Nat.lt_irrefl L2.length
      rw [List.take_length, t1] at z14
      have hsz : sizeZ (L : Int) (H : Int) = ((H - L : Nat) : Int) := by
        rw [sizeZ, if_pos (by omega)]; omega
      try simp only [z7, z13, z14, z103, z104, hnl, or_false, false_or, Bool.and_self, Bool.and_true, Bool.true_and, Bool.and_false, Bool.false_and, Bool.not_not, Int.cast_ofNat_Int, beq_self_eq_true, Heap.set_same, Heap.set_set, Heap.kill_kset, Int.toNat_natCast, Int.natCast_nonneg, Int.ofNat_lt, Int.ofNat_le, Int.natCast_inj, pmC, pmE, pmS, pmV, pmK, pmQ, pmL, pmX, pmF, pmO, pmA, pmR, pmW, pmB, Option.isSome_some, ft, olds_ints, olds_bools, ↓reduceIte, Nat.reduceEqDiff, reduceCtorEq, Nat.reduceAdd, Nat.reduceMul, Nat.reduceLeDiff, Nat.reduceLT, Int.reduceLE, Int.reduceLT, Int.reduceEq, Int.reduceToNat, Nat.zero_mul, Nat.zero_add, Nat.mul_one, ne_eq, not_false_eq_true, not_true_eq_false, true_and, and_true, decide_true, decide_false, Bool.not_true, Bool.not_false, Bool.false_eq_true, and_self, Nat.add_zero]
      refine Size _ _ (by omega) _ ?_
      rw [hsz]
      try simp only [z7, z13, z14, or_false, false_or, Bool.and_self, Bool.and_true, Bool.true_and, Bool.and_false, Bool.false_and, Bool.not_not, Int.cast_ofNat_Int, beq_self_eq_true, Heap.set_same, Heap.set_set, Heap.kill_kset, Int.toNat_natCast, Int.natCast_nonneg, Int.ofNat_lt, Int.ofNat_le, Int.natCast_inj, pmC, pmE, pmS, pmV, pmK, pmQ, pmL, pmX, pmF, pmO, pmA, pmR, pmW, pmB, Option.isSome_some, ft, olds_ints, olds_bools, ↓reduceIte, Nat.reduceEqDiff, reduceCtorEq, Nat.reduceAdd, Nat.reduceMul, Nat.reduceLeDiff, Nat.reduceLT, Int.reduceLE, Int.reduceLT, Int.reduceEq, Int.reduceToNat, Nat.zero_mul, Nat.zero_add, Nat.mul_one, ne_eq, not_false_eq_true, not_true_eq_false, true_and, and_true, decide_true, decide_false, Bool.not_true, Bool.not_false, Bool.false_eq_true, and_self, Nat.add_zero]
      refine Size _ _ (by omega) _ ?_
      rw [hsz]
      try simp only [z7, z13, z14, or_false, false_or, Bool.and_self, Bool.and_true, Bool.true_and, Bool.and_false, Bool.false_and, Bool.not_not, Int.cast_ofNat_Int, beq_self_eq_true, Heap.set_same, Heap.set_set, Heap.kill_kset, Int.toNat_natCast, Int.natCast_nonneg, Int.ofNat_lt, Int.ofNat_le, Int.natCast_inj, pmC, pmE, pmS, pmV, pmK, pmQ, pmL, pmX, pmF, pmO, pmA, pmR, pmW, pmB, Option.isSome_some, ft, olds_ints, olds_bools, ↓reduceIte, Nat.reduceEqDiff, reduceCtorEq, Nat.reduceAdd, Nat.reduceMul, Nat.reduceLeDiff, Nat.reduceLT, Int.reduceLE, Int.reduceLT, Int.reduceEq, Int.reduceToNat, Nat.zero_mul, Nat.zero_add, Nat.mul_one, ne_eq, not_false_eq_true, not_true_eq_false, true_and, and_true, decide_true, decide_false, Bool.not_true, Bool.not_false, Bool.false_eq_true, and_self, Nat.add_zero]
      refine awake _ ?_
      try simp only [or_false, false_or, Bool.and_self, Bool.and_true, Bool.true_and, Bool.and_false, Bool.false_and, Bool.not_not, Int.cast_ofNat_Int, beq_self_eq_true, Heap.set_same, Heap.set_set, Heap.kill_kset, Int.toNat_natCast, Int.natCast_nonneg, Int.ofNat_lt, Int.ofNat_le, Int.natCast_inj, pmC, pmE, pmS, pmV, pmK, pmQ, pmL, pmX, pmF, pmO, pmA, pmR, pmW, pmB, Option.isSome_some, ft, olds_ints, olds_bools, ↓reduceIte, Nat.reduceEqDiff, reduceCtorEq, Nat.reduceAdd, Nat.reduceMul, Nat.reduceLeDiff, Nat.reduceLT, Int.reduceLE, Int.reduceLT, Int.reduceEq, Int.reduceToNat, Nat.zero_mul, Nat.zero_add, Nat.mul_one, ne_eq, not_false_eq_true, not_true_eq_false, true_and, and_true, decide_true, decide_false, Bool.not_true, Bool.not_false, Bool.false_eq_true, and_self, Nat.add_zero]
      exact finK_rf k
def kinds_PickMany : List AKind := [.row [some .i64] 8, .one (some .u8), .one (some .u8)]
theorem all_PickMany (pvs : List PV) (h : IsArgs kinds_PickMany pvs) : CanP Try.prog 3 pvs Heap.nil (fun v _ => v = .bool true) := by
  obtain ⟨p, r, rfl, ⟨rows, hr, hz, hl, rfl⟩, p2, r2, rfl, ⟨n1, rfl, hw1⟩, p3, r3, rfl, ⟨n2, rfl, hw2⟩, rfl⟩ := h
  obtain ⟨o, rfl, ho⟩ := rows_of (fun x => [.int .i64 x]) _ fits_int45 hr
  rw [flat_ints45]
  simp only [List.length_map] at hl hz ⊢
  exact law_PickMany o (by omega) n1 n2 (wf8 hw1) (wf8 hw2) _ rfl
end Go.Proofs.Ythoggjdkabhpkaa
