/-
  The document's longest spans of what is true, and that they are the spans of the numbers that are told.
  Conditions: rows of at most a million.
-/
import Derived.Test.YthoggjdkabhpkaaPk2
namespace Go.Proofs.Ythoggjdkabhpkaa
open Go.Pm
set_option maxRecDepth 100000
set_option linter.unusedSimpArgs false
set_option linter.unusedVariables false

def spnI (B : List Bool) : Nat → List (Int × Int)
  | 0 => []
  | i + 1 => if B.getD i default = true then (if 0 < i ∧ B.getD (i - 1) default = true then upL (spnI B i) ((i : Int) + 1) else spnI B i ++ [((i : Int), (i : Int) + 1)]) else spnI B i
def spnT (B : List Bool) : List (Int × Int) := spnI B B.length
theorem spnI_ok (B : List Bool) : ∀ i, (0 < i ∧ B.getD (i - 1) default = true → ∃ L p, spnI B i = L ++ [p] ∧ p.2 = (i : Int)) ∧ (∀ L p, spnI B i = L ++ [p] → ¬ (0 < i ∧ B.getD (i - 1) default = true) → p.2 < (i : Int)) ∧ (spnI B i).length ≤ i
  | 0 => ⟨by omega, fun L p e => by simp [spnI] at e, by simp [spnI]⟩
  | i + 1 => by
    obtain ⟨h1, h2, h3⟩ := spnI_ok B i
    rw [spnI]
    have hi : i + 1 - 1 = i := rfl
    rw [hi]
    cases hb : B.getD i default
    · simp only [Bool.false_eq_true, if_false, and_false, not_false_eq_true, true_implies, false_implies, true_and]
      refine ⟨fun L p e => ?_, by omega⟩
      by_cases q : 0 < i ∧ B.getD (i - 1) default = true
      · obtain ⟨L2, p2, e2, e3⟩ := h1 q
        rw [e2] at e
        have := List.append_inj_right' e rfl
        simp only [List.cons.injEq, and_true] at this
        rw [← this]; omega
      · have := h2 L p e q; omega
    · rw [if_pos rfl]
      by_cases q : 0 < i ∧ B.getD (i - 1) default = true
      · rw [if_pos q]
        obtain ⟨L2, p2, e2, e3⟩ := h1 q
        rw [e2, upL_app]
        refine ⟨fun _ => ⟨L2, _, rfl, by simp⟩, fun L p e n => absurd ⟨by omega, rfl⟩ n, ?_⟩
        have := congrArg List.length e2
        simp at this ⊢; omega
      · rw [if_neg q]
        refine ⟨fun _ => ⟨_, _, rfl, by simp⟩, fun L p e n => absurd ⟨by omega, rfl⟩ n, ?_⟩
        simp; omega
theorem spansR (fr : Bool) (B : List Bool) (hl : B.length ≤ 1000000) (h : Heap) {K : PV → Heap → Prop} (k : K (.list true 2 (spnT B).length ((spnT B).flatMap sp)) h) :
    CanP Try.prog 29 [.list fr 1 B.length (B.map .bool)] h K := by
  refine e29 rfl ?_
  try simp only [c29, r29_0, r29_1, r29_2, r29_3, r29_4, r29_5, r29_6, r29_7, r29_8, r29_9, r29_10, olds_bools, or_false, false_or, Bool.and_self, Bool.and_true, Bool.true_and, Bool.and_false, Bool.false_and, Bool.not_not, Int.cast_ofNat_Int, beq_self_eq_true, Heap.set_same, Heap.set_set, Heap.kill_kset, Int.toNat_natCast, Int.natCast_nonneg, Int.ofNat_lt, Int.ofNat_le, Int.natCast_inj, pmC, pmE, pmS, pmV, pmK, pmQ, pmL, pmX, pmF, pmO, pmA, pmR, pmW, pmB, Option.isSome_some, ft, olds_ints, olds_bools, ↓reduceIte, Nat.reduceEqDiff, reduceCtorEq, Nat.reduceAdd, Nat.reduceMul, Nat.reduceLeDiff, Nat.reduceLT, Int.reduceLE, Int.reduceLT, Int.reduceEq, Int.reduceToNat, Nat.zero_mul, Nat.zero_add, Nat.mul_one, ne_eq, not_false_eq_true, not_true_eq_false, true_and, and_true, decide_true, decide_false, Bool.not_true, Bool.not_false, Bool.false_eq_true, and_self, Nat.add_zero]
  refine pwp_up B.length (fun i σ h' => Acc h h' (σ 3) 2 (spnI B i).length ((spnI B i).flatMap sp) ∧ h.le h' ∧ σ 0 = .list false 1 B.length (B.map .bool) ∧ σ 4 = .int .i64 i) ?_ ?_
  · exact ⟨Acc.nil _ _ _, Heap.le_refl _, rfl, rfl⟩
  rintro i σ h' K' hi ⟨a, lh, s0, s4⟩ next
  rcases Nat.lt_or_ge i B.length with hlt | hge
  · have hw : IntKind.i64.wrap ((i : Int) + 1) = (i : Int) + 1 := wrap_in (by omega) (by omega)
    have hx := getm PV.bool B (i := i) (by omega)
    have hx1 : 0 < i → (B.map PV.bool)[i - 1]? = some (.bool (B.getD (i - 1) default)) := fun _ => getm PV.bool B (i := i - 1) (by omega)
    have hwm : 0 < i → IntKind.i64.wrap ((i : Int) - 1) = ((i - 1 : Nat) : Int) := fun _ => by rw [wrap_in (by omega) (by omega)]; omega
    obtain ⟨o1, -, hcl⟩ := spnI_ok B i
    have hcn : spnI B (i + 1) = if B.getD i default = true then (if 0 < i ∧ B.getD (i - 1) default = true then upL (spnI B i) ((i : Int) + 1) else spnI B i ++ [((i : Int), (i : Int) + 1)]) else spnI B i := rfl
    generalize B.getD i default = c at *
    generalize B.getD (i - 1) default = d at *
    generalize spnI B i = L at *
    have add9 : ∀ (K4 : Kt), (∀ v' h4, Acc h h4 v' 2 (L ++ [((i : Int), (i : Int) + 1)]).length ((L ++ [((i : Int), (i : Int) + 1)]).flatMap sp) → h.le h4 → K4 v' h4) → ap2K (some (1, [.int .i64 i, .int .i64 ((i : Int) + 1)])) 2 16 (σ 3) K4 h' := by
      intro K4 k4
      refine a.app lh (by decide) rfl (by omega) (by simp only [maxLen]; omega) fun v' h4 a4 l4 sd => ?_
      refine k4 v' h4 ?_ l4
      rw [List.length_append, List.flatMap_append]
      simpa [sp] using a4
    have fin9 : ∀ (σ' : Sl) (h4 : Heap), Acc h h4 (σ' 3) 2 (spnI B (i + 1)).length ((spnI B (i + 1)).flatMap sp) → h.le h4 → σ' 0 = σ 0 → σ' 4 = .int .i64 ((i : Int) + 1) → K' σ' h4 := fun σ' h4 a4 l4 q0 q4 =>
      next hlt _ _ ⟨a4, l4, by rw [q0, s0], by rw [q4]; rfl⟩
    have hlk : ∀ (K : Kt) (h : Heap), lenK (some 1) (σ 3) K h = K (.int .i64 L.length) h := fun K h => by
      rcases a with ⟨e, e2, _⟩ | ⟨b, e, _⟩
      · rw [e, e2]; try simp only [or_false, false_or, Bool.and_self, Bool.and_true, Bool.true_and, Bool.and_false, Bool.false_and, Bool.not_not, Int.cast_ofNat_Int, beq_self_eq_true, Heap.set_same, Heap.set_set, Heap.kill_kset, Int.toNat_natCast, Int.natCast_nonneg, Int.ofNat_lt, Int.ofNat_le, Int.natCast_inj, pmC, pmE, pmS, pmV, pmK, pmQ, pmL, pmX, pmF, pmO, pmA, pmR, pmW, pmB, Option.isSome_some, ft, olds_ints, olds_bools, ↓reduceIte, Nat.reduceEqDiff, reduceCtorEq, Nat.reduceAdd, Nat.reduceMul, Nat.reduceLeDiff, Nat.reduceLT, Int.reduceLE, Int.reduceLT, Int.reduceEq, Int.reduceToNat, Nat.zero_mul, Nat.zero_add, Nat.mul_one, ne_eq, not_false_eq_true, not_true_eq_false, true_and, and_true, decide_true, decide_false, Bool.not_true, Bool.not_false, Bool.false_eq_true, and_self, Nat.add_zero]
      · rw [e]; try simp only [or_false, false_or, Bool.and_self, Bool.and_true, Bool.true_and, Bool.and_false, Bool.false_and, Bool.not_not, Int.cast_ofNat_Int, beq_self_eq_true, Heap.set_same, Heap.set_set, Heap.kill_kset, Int.toNat_natCast, Int.natCast_nonneg, Int.ofNat_lt, Int.ofNat_le, Int.natCast_inj, pmC, pmE, pmS, pmV, pmK, pmQ, pmL, pmX, pmF, pmO, pmA, pmR, pmW, pmB, Option.isSome_some, ft, olds_ints, olds_bools, ↓reduceIte, Nat.reduceEqDiff, reduceCtorEq, Nat.reduceAdd, Nat.reduceMul, Nat.reduceLeDiff, Nat.reduceLT, Int.reduceLE, Int.reduceLT, Int.reduceEq, Int.reduceToNat, Nat.zero_mul, Nat.zero_add, Nat.mul_one, ne_eq, not_false_eq_true, not_true_eq_false, true_and, and_true, decide_true, decide_false, Bool.not_true, Bool.not_false, Bool.false_eq_true, and_self, Nat.add_zero]
    cases c
    · rw [if_neg (by simp)] at hcn
      try simp only [s0, s4, hlt, hx, hw, hlk, or_false, false_or, Bool.and_self, Bool.and_true, Bool.true_and, Bool.and_false, Bool.false_and, Bool.not_not, Int.cast_ofNat_Int, beq_self_eq_true, Heap.set_same, Heap.set_set, Heap.kill_kset, Int.toNat_natCast, Int.natCast_nonneg, Int.ofNat_lt, Int.ofNat_le, Int.natCast_inj, pmC, pmE, pmS, pmV, pmK, pmQ, pmL, pmX, pmF, pmO, pmA, pmR, pmW, pmB, Option.isSome_some, ft, olds_ints, olds_bools, ↓reduceIte, Nat.reduceEqDiff, reduceCtorEq, Nat.reduceAdd, Nat.reduceMul, Nat.reduceLeDiff, Nat.reduceLT, Int.reduceLE, Int.reduceLT, Int.reduceEq, Int.reduceToNat, Nat.zero_mul, Nat.zero_add, Nat.mul_one, ne_eq, not_false_eq_true, not_true_eq_false, true_and, and_true, decide_true, decide_false, Bool.not_true, Bool.not_false, Bool.false_eq_true, and_self, Nat.add_zero]
      exact fin9 _ _ (by rw [hcn]; simpa [put] using a) lh (by simp [put]) (by simp [put])
    · rw [if_pos rfl] at hcn
      by_cases p0 : 0 < i
      · have p0' : (0 : Int) < (i : Int) := by omega
        have hx1 := hx1 p0
        have hwm := hwm p0
        have hil : i - 1 < B.length := by omega
        cases d
        · rw [if_neg (by simp)] at hcn
          try simp only [s0, s4, hlt, hx, hw, hlk, p0', hx1, hwm, hil, or_false, false_or, Bool.and_self, Bool.and_true, Bool.true_and, Bool.and_false, Bool.false_and, Bool.not_not, Int.cast_ofNat_Int, beq_self_eq_true, Heap.set_same, Heap.set_set, Heap.kill_kset, Int.toNat_natCast, Int.natCast_nonneg, Int.ofNat_lt, Int.ofNat_le, Int.natCast_inj, pmC, pmE, pmS, pmV, pmK, pmQ, pmL, pmX, pmF, pmO, pmA, pmR, pmW, pmB, Option.isSome_some, ft, olds_ints, olds_bools, ↓reduceIte, Nat.reduceEqDiff, reduceCtorEq, Nat.reduceAdd, Nat.reduceMul, Nat.reduceLeDiff, Nat.reduceLT, Int.reduceLE, Int.reduceLT, Int.reduceEq, Int.reduceToNat, Nat.zero_mul, Nat.zero_add, Nat.mul_one, ne_eq, not_false_eq_true, not_true_eq_false, true_and, and_true, decide_true, decide_false, Bool.not_true, Bool.not_false, Bool.false_eq_true, and_self, Nat.add_zero]
          refine add9 _ fun v' h4 a4 l4 => ?_
          try simp only [s4, hw, or_false, false_or, Bool.and_self, Bool.and_true, Bool.true_and, Bool.and_false, Bool.false_and, Bool.not_not, Int.cast_ofNat_Int, beq_self_eq_true, Heap.set_same, Heap.set_set, Heap.kill_kset, Int.toNat_natCast, Int.natCast_nonneg, Int.ofNat_lt, Int.ofNat_le, Int.natCast_inj, pmC, pmE, pmS, pmV, pmK, pmQ, pmL, pmX, pmF, pmO, pmA, pmR, pmW, pmB, Option.isSome_some, ft, olds_ints, olds_bools, ↓reduceIte, Nat.reduceEqDiff, reduceCtorEq, Nat.reduceAdd, Nat.reduceMul, Nat.reduceLeDiff, Nat.reduceLT, Int.reduceLE, Int.reduceLT, Int.reduceEq, Int.reduceToNat, Nat.zero_mul, Nat.zero_add, Nat.mul_one, ne_eq, not_false_eq_true, not_true_eq_false, true_and, and_true, decide_true, decide_false, Bool.not_true, Bool.not_false, Bool.false_eq_true, and_self, Nat.add_zero]
          exact fin9 _ _ (by rw [hcn]; simpa [put] using a4) l4 (by simp [put]) (by simp [put])
        · rw [if_pos ⟨p0, rfl⟩] at hcn
          obtain ⟨L', q, rfl, -⟩ := o1 ⟨p0, rfl⟩
          rw [upL_app] at hcn
          obtain ⟨b, s3, hn, hb, hbl⟩ := a.resolve_left fun e => by simp at e
          have hlen : (L' ++ [q]).length = L'.length + 1 := by simp
          have hw1 : IntKind.i64.wrap (((L'.length + 1 : Nat) : Int) - 1) = (L'.length : Int) := by rw [wrap_in (by omega) (by omega)]; omega
          rw [hlen] at s3 hcl
          have hll : L'.length < L'.length + 1 := by omega
          have hle : L'.length * 2 + 1 < ((L' ++ [q]).flatMap sp).length := by rw [flat_length sp 2 sp_len, hlen]; omega
          try simp only [s0, s3, s4, hlt, hx, hw, hw1, hb, hll, hle, p0', hx1, hwm, hil, or_false, false_or, Bool.and_self, Bool.and_true, Bool.true_and, Bool.and_false, Bool.false_and, Bool.not_not, Int.cast_ofNat_Int, beq_self_eq_true, Heap.set_same, Heap.set_set, Heap.kill_kset, Int.toNat_natCast, Int.natCast_nonneg, Int.ofNat_lt, Int.ofNat_le, Int.natCast_inj, pmC, pmE, pmS, pmV, pmK, pmQ, pmL, pmX, pmF, pmO, pmA, pmR, pmW, pmB, Option.isSome_some, ft, olds_ints, olds_bools, ↓reduceIte, Nat.reduceEqDiff, reduceCtorEq, Nat.reduceAdd, Nat.reduceMul, Nat.reduceLeDiff, Nat.reduceLT, Int.reduceLE, Int.reduceLT, Int.reduceEq, Int.reduceToNat, Nat.zero_mul, Nat.zero_add, Nat.mul_one, ne_eq, not_false_eq_true, not_true_eq_false, true_and, and_true, decide_true, decide_false, Bool.not_true, Bool.not_false, Bool.false_eq_true, and_self, Nat.add_zero]
          refine ⟨by omega, fin9 _ _ ?_ (Heap.le_set lh hn) (by simp [put]) (by simp [put])⟩
          rw [hcn, wr_last]
          have e7 : (L' ++ [(q.1, (i : Int) + 1)]).length = L'.length + 1 := by simp
          rw [e7]
          simp only [put, reduceCtorEq, Nat.reduceEqDiff, if_false]
          rw [s3]
          exact Acc.buf hn (Heap.set_same _ _ _) (by rw [flat_length sp 2 sp_len, e7])
      · have p0' : ¬ (0 : Int) < (i : Int) := by omega
        rw [if_neg (by omega)] at hcn
        try simp only [s0, s4, hlt, hx, hw, hlk, p0', or_false, false_or, Bool.and_self, Bool.and_true, Bool.true_and, Bool.and_false, Bool.false_and, Bool.not_not, Int.cast_ofNat_Int, beq_self_eq_true, Heap.set_same, Heap.set_set, Heap.kill_kset, Int.toNat_natCast, Int.natCast_nonneg, Int.ofNat_lt, Int.ofNat_le, Int.natCast_inj, pmC, pmE, pmS, pmV, pmK, pmQ, pmL, pmX, pmF, pmO, pmA, pmR, pmW, pmB, Option.isSome_some, ft, olds_ints, olds_bools, ↓reduceIte, Nat.reduceEqDiff, reduceCtorEq, Nat.reduceAdd, Nat.reduceMul, Nat.reduceLeDiff, Nat.reduceLT, Int.reduceLE, Int.reduceLT, Int.reduceEq, Int.reduceToNat, Nat.zero_mul, Nat.zero_add, Nat.mul_one, ne_eq, not_false_eq_true, not_true_eq_false, true_and, and_true, decide_true, decide_false, Bool.not_true, Bool.not_false, Bool.false_eq_true, and_self, Nat.add_zero]
        refine add9 _ fun v' h4 a4 l4 => ?_
        try simp only [s4, hw, or_false, false_or, Bool.and_self, Bool.and_true, Bool.true_and, Bool.and_false, Bool.false_and, Bool.not_not, Int.cast_ofNat_Int, beq_self_eq_true, Heap.set_same, Heap.set_set, Heap.kill_kset, Int.toNat_natCast, Int.natCast_nonneg, Int.ofNat_lt, Int.ofNat_le, Int.natCast_inj, pmC, pmE, pmS, pmV, pmK, pmQ, pmL, pmX, pmF, pmO, pmA, pmR, pmW, pmB, Option.isSome_some, ft, olds_ints, olds_bools, ↓reduceIte, Nat.reduceEqDiff, reduceCtorEq, Nat.reduceAdd, Nat.reduceMul, Nat.reduceLeDiff, Nat.reduceLT, Int.reduceLE, Int.reduceLT, Int.reduceEq, Int.reduceToNat, Nat.zero_mul, Nat.zero_add, Nat.mul_one, ne_eq, not_false_eq_true, not_true_eq_false, true_and, and_true, decide_true, decide_false, Bool.not_true, Bool.not_false, Bool.false_eq_true, and_self, Nat.add_zero]
        exact fin9 _ _ (by rw [hcn]; simpa [put] using a4) l4 (by simp [put]) (by simp [put])
  · have e : i = B.length := by omega
    subst e
    have hnl := Nat.lt_irrefl B.length
    try simp only [s0, s4, hnl, or_false, false_or, Bool.and_self, Bool.and_true, Bool.true_and, Bool.and_false, Bool.false_and, Bool.not_not, Int.cast_ofNat_Int, beq_self_eq_true, Heap.set_same, Heap.set_set, Heap.kill_kset, Int.toNat_natCast, Int.natCast_nonneg, Int.ofNat_lt, Int.ofNat_le, Int.natCast_inj, pmC, pmE, pmS, pmV, pmK, pmQ, pmL, pmX, pmF, pmO, pmA, pmR, pmW, pmB, Option.isSome_some, ft, olds_ints, olds_bools, ↓reduceIte, Nat.reduceEqDiff, reduceCtorEq, Nat.reduceAdd, Nat.reduceMul, Nat.reduceLeDiff, Nat.reduceLT, Int.reduceLE, Int.reduceLT, Int.reduceEq, Int.reduceToNat, Nat.zero_mul, Nat.zero_add, Nat.mul_one, ne_eq, not_false_eq_true, not_true_eq_false, true_and, and_true, decide_true, decide_false, Bool.not_true, Bool.not_false, Bool.false_eq_true, and_self, Nat.add_zero]
    refine a.fin lh ?_
    rw [old_sp]; exact k
/-! ### The same -/
theorem mrg_fold (X : List Int) : ∀ i, i ≤ X.length → mrg X i = (X.take i).foldl mrg1 []
  | 0, _ => rfl
  | i + 1, hi => by rw [take_next X (by omega), List.foldl_append, ← mrg_fold X i (by omega)]; rfl
theorem merged_fold (X : List Int) : mergedT X = X.foldl mrg1 [] := by
  rw [mergedT, mrg_fold X _ (Nat.le_refl _), List.take_length]
/-- The numbers of what is true. -/
def trues (B : List Bool) : Nat → List Int
  | 0 => []
  | i + 1 => if B.getD i default = true then trues B i ++ [(i : Int)] else trues B i
theorem trues_mrg (B : List Bool) : ∀ i, (trues B i).foldl mrg1 [] = spnI B i
  | 0 => rfl
  | i + 1 => by
    have ih := trues_mrg B i
    obtain ⟨h1, h2, -⟩ := spnI_ok B i
    rw [trues, spnI]
    by_cases hb : B.getD i default = true
    · rw [if_pos hb, if_pos hb, List.foldl_append, ih]
      show mrg1 (spnI B i) i = _
      by_cases q : 0 < i ∧ B.getD (i - 1) default = true
      · rw [if_pos q]
        obtain ⟨L, p, e, e2⟩ := h1 q
        rw [e, mrg1, if_pos ⟨by simp, by simp [List.getD, e2]⟩]
      · rw [if_neg q, mrg1, if_neg]
        rintro ⟨n1, n2⟩
        obtain ⟨L, p, e⟩ := last_cut _ n1
        have := h2 L p e q
        rw [e] at n2
        simp [List.getD] at n2
        omega
    · rw [if_neg hb, if_neg hb, ih]
theorem spn_merged (B : List Bool) : mergedT (trues B B.length) = spnT B := by rw [merged_fold, trues_mrg]; rfl
theorem trues_in (B : List Bool) : ∀ i x, x ∈ trues B i → ∃ j : Nat, j < i ∧ x = j ∧ B.getD j default = true
  | 0, x, h => by simp [trues] at h
  | i + 1, x, h => by
    rw [trues] at h
    split at h
    · rename_i hb
      rcases List.mem_append.1 h with q | q
      · obtain ⟨j, a, b⟩ := trues_in B i x q
        exact ⟨j, by omega, b⟩
      · exact ⟨i, by omega, by simpa using q, hb⟩
    · obtain ⟨j, a, b⟩ := trues_in B i x h
      exact ⟨j, by omega, b⟩
theorem trues_mem (B : List Bool) : ∀ i (j : Nat), j < i → B.getD j default = true → (j : Int) ∈ trues B i
  | 0, j, h, _ => by omega
  | i + 1, j, h, hb => by
    rw [trues]
    by_cases e : j = i
    · subst e; rw [if_pos hb]; simp
    · have := trues_mem B i j (by omega) hb
      split
      · exact List.mem_append_left _ this
      · exact this
theorem trues_rise (B : List Bool) : ∀ i, (trues B i).Pairwise (· < ·)
  | 0 => List.Pairwise.nil
  | i + 1 => by
    rw [trues]
    split
    · refine List.pairwise_append.2 ⟨trues_rise B i, List.pairwise_singleton _ _, fun x hx y hy => ?_⟩
      obtain ⟨j, a, rfl, _⟩ := trues_in B i x hx
      rw [List.mem_singleton.1 hy]; omega
    · exact trues_rise B i
end Go.Proofs.Ythoggjdkabhpkaa
