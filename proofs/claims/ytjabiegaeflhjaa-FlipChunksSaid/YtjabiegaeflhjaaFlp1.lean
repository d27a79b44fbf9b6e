/-
  Codes the other way round: chunks, and the document's chunks.
  Conditions: none but those that each sentence tells.
-/
import Derived.Test.YtjabiegaeflhjaaRef07
import Derived.Test.YtjabiegaeflhjaaSpan1
import Derived.Test.YtjabiegaeflhjaaProps1
namespace Go.Proofs.Ytjabiegaeflhjaa
open Go.Pm
set_option maxRecDepth 100000
set_option linter.unusedSimpArgs false
set_option linter.unusedVariables false

/-- The last one ends further on. -/
def upL : List (Int × Int) → Int → List (Int × Int)
  | [], _ => []
  | [p], z => [(p.1, z)]
  | p :: l, z => p :: upL l z
/-- The chunks of the first i codes. -/
def chI (m : Bool) (X : List Int) : Nat → List (Int × Int)
  | 0 => []
  | i + 1 => if m && (!(chI m X i).isEmpty && markT (X.getD i default)) then upL (chI m X i) ((i : Int) + 1) else chI m X i ++ [((i : Int), (i : Int) + 1)]
def chk (m : Bool) (X : List Int) : List (Int × Int) := chI m X X.length
theorem upL_app : ∀ (l : List (Int × Int)) (p : Int × Int) (z : Int), upL (l ++ [p]) z = l ++ [(p.1, z)]
  | [], p, z => rfl
  | [a], p, z => rfl
  | a :: b :: l, p, z => by
    have := upL_app (b :: l) p z
    simp only [List.cons_append] at this ⊢
    rw [upL, this]
    simp
theorem upL_len : ∀ (l : List (Int × Int)) (z : Int), (upL l z).length = l.length
  | [], z => rfl
  | [a], z => rfl
  | a :: b :: l, z => by simp [upL, upL_len (b :: l) z]
theorem chI_len (m : Bool) (X : List Int) : ∀ i, (chI m X i).length ≤ i
  | 0 => by simp [chI]
  | i + 1 => by
    have ih := chI_len m X i
    unfold chI
    split
    · rw [upL_len]; omega
    · simp; omega
theorem last_cut {α : Type} (l : List α) (h : l ≠ []) : ∃ l' p, l = l' ++ [p] := ⟨l.dropLast, l.getLast h, (List.dropLast_concat_getLast h).symm⟩
theorem wr_two (A : List PV) (x y z : PV) : wr (A ++ [x, y]) (A.length + 1) [z] = A ++ [x, z] := by
  unfold wr
  rw [List.take_append, List.drop_append, List.take_of_length_le (by omega), List.drop_eq_nil_of_le (by simp; omega)]
  simp [show A.length + 1 - A.length = 1 by omega, show A.length + 1 + 1 - A.length = 2 by omega]
theorem wr_last (l : List (Int × Int)) (p : Int × Int) (z : Int) : wr ((l ++ [p]).flatMap sp) (l.length * 2 + 1) [.int .i64 z] = (l ++ [(p.1, z)]).flatMap sp := by
  have e : (l.flatMap sp).length = l.length * 2 := flat_length sp 2 sp_len l
  simp only [List.flatMap_append, List.flatMap_cons, List.flatMap_nil, List.append_nil, sp]
  rw [← e]
  exact wr_two _ _ _ _
theorem Chunks (p : PV) (hp : PR p) (fr : Bool) (X : List Int) (hl : X.length ≤ 1000000) (m : Bool) (h : Heap) {K : PV → Heap → Prop} (k : K (.list true 2 (chk m X).length ((chk m X).flatMap sp)) h) :
    CanP Try.prog 12 [p, .list fr 1 X.length (X.map (.int .i64)), .bool m] h K := by
  refine e12 rfl ?_
  have hp' := hp.old
  try simp only [c12, r12_0, r12_1, r12_2, r12_3, r12_4, r12_5, r12_6, r12_7, r12_8, r12_9, r12_10, or_false, false_or, Bool.and_self, Bool.and_true, Bool.true_and, Bool.and_false, Bool.false_and, Bool.not_not, Int.cast_ofNat_Int, beq_self_eq_true, Heap.set_same, Heap.set_set, Heap.kill_kset, Int.toNat_natCast, Int.natCast_nonneg, Int.ofNat_lt, Int.ofNat_le, Int.natCast_inj, pmC, pmE, pmS, pmV, pmK, pmQ, pmL, pmX, pmF, pmO, pmA, pmR, pmW, pmB, Option.isSome_some, ft, olds_ints, olds_bools, ↓reduceIte, Nat.reduceEqDiff, reduceCtorEq, Nat.reduceAdd, Nat.reduceMul, Nat.reduceLeDiff, Nat.reduceLT, Int.reduceLE, Int.reduceLT, Int.reduceEq, Int.reduceToNat, Nat.zero_mul, Nat.zero_add, Nat.mul_one, ne_eq, not_false_eq_true, not_true_eq_false, true_and, and_true, decide_true, decide_false, Bool.not_true, Bool.not_false, Bool.false_eq_true, and_self, Nat.add_zero]
  generalize p.old = p2 at *
  refine pwp_up X.length (fun i σ h' => Acc h h' (σ 7) 2 (chI m X i).length ((chI m X i).flatMap sp) ∧ h.le h' ∧ σ 0 = p2 ∧ σ 2 = .bool m ∧ σ 11 = .list false 1 X.length (X.map (.int .i64)) ∧ σ 12 = .int .i64 X.length ∧ σ 13 = .int .i64 i) ?_ ?_
  · exact ⟨Acc.nil _ _ _, Heap.le_refl _, rfl, rfl, rfl, rfl, rfl⟩
  rintro i σ h' K' hi ⟨a, lh, s0, s2, s11, s12, s13⟩ next
  rcases Nat.lt_or_ge i X.length with hlt | hge
  · have hw : IntKind.i64.wrap ((i : Int) + 1) = (i : Int) + 1 := wrap_in (by omega) (by omega)
    have hx := getm (PV.int .i64) X (i := i) (by omega)
    have hcl := chI_len m X i
    have hcn : chI m X (i + 1) = if m && (!(chI m X i).isEmpty && markT (X.getD i default)) then upL (chI m X i) ((i : Int) + 1) else chI m X i ++ [((i : Int), (i : Int) + 1)] := rfl
    generalize X.getD i default = c at *
    generalize chI m X i = L at *
    have add9 : ∀ (K4 : Kt), (∀ v' h4, Acc h h4 v' 2 (L ++ [((i : Int), (i : Int) + 1)]).length ((L ++ [((i : Int), (i : Int) + 1)]).flatMap sp) → h.le h4 → K4 v' h4) → ap2K (some (1, [.int .i64 i, .int .i64 ((i : Int) + 1)])) 2 16 (σ 7) K4 h' := by
      intro K4 k4
      refine a.app lh (by decide) rfl (by omega) (by simp only [maxLen]; omega) fun v' h4 a4 l4 sd => ?_
      refine k4 v' h4 ?_ l4
      rw [List.length_append, List.flatMap_append]
      simpa [sp] using a4
    have fin9 : ∀ (σ' : Sl) (h4 : Heap), Acc h h4 (σ' 7) 2 (chI m X (i + 1)).length ((chI m X (i + 1)).flatMap sp) → h.le h4 → σ' 0 = σ 0 → σ' 2 = σ 2 → σ' 11 = σ 11 → σ' 12 = σ 12 → σ' 13 = .int .i64 ((i : Int) + 1) → K' σ' h4 := fun σ' h4 a4 l4 q0 q2 q11 q12 q13 =>
      next hlt _ _ ⟨a4, l4, by rw [q0, s0], by rw [q2, s2], by rw [q11, s11], by rw [q12, s12], by rw [q13]; rfl⟩
    have hlk : ∀ (K : Kt) (h : Heap), lenK (some 1) (σ 7) K h = K (.int .i64 L.length) h := fun K h => by
      rcases a with ⟨e, e2, _⟩ | ⟨b, e, _⟩
      · rw [e, e2]; try simp only [or_false, false_or, Bool.and_self, Bool.and_true, Bool.true_and, Bool.and_false, Bool.false_and, Bool.not_not, Int.cast_ofNat_Int, beq_self_eq_true, Heap.set_same, Heap.set_set, Heap.kill_kset, Int.toNat_natCast, Int.natCast_nonneg, Int.ofNat_lt, Int.ofNat_le, Int.natCast_inj, pmC, pmE, pmS, pmV, pmK, pmQ, pmL, pmX, pmF, pmO, pmA, pmR, pmW, pmB, Option.isSome_some, ft, olds_ints, olds_bools, ↓reduceIte, Nat.reduceEqDiff, reduceCtorEq, Nat.reduceAdd, Nat.reduceMul, Nat.reduceLeDiff, Nat.reduceLT, Int.reduceLE, Int.reduceLT, Int.reduceEq, Int.reduceToNat, Nat.zero_mul, Nat.zero_add, Nat.mul_one, ne_eq, not_false_eq_true, not_true_eq_false, true_and, and_true, decide_true, decide_false, Bool.not_true, Bool.not_false, Bool.false_eq_true, and_self, Nat.add_zero]
      · rw [e]; try simp only [or_false, false_or, Bool.and_self, Bool.and_true, Bool.true_and, Bool.and_false, Bool.false_and, Bool.not_not, Int.cast_ofNat_Int, beq_self_eq_true, Heap.set_same, Heap.set_set, Heap.kill_kset, Int.toNat_natCast, Int.natCast_nonneg, Int.ofNat_lt, Int.ofNat_le, Int.natCast_inj, pmC, pmE, pmS, pmV, pmK, pmQ, pmL, pmX, pmF, pmO, pmA, pmR, pmW, pmB, Option.isSome_some, ft, olds_ints, olds_bools, ↓reduceIte, Nat.reduceEqDiff, reduceCtorEq, Nat.reduceAdd, Nat.reduceMul, Nat.reduceLeDiff, Nat.reduceLT, Int.reduceLE, Int.reduceLT, Int.reduceEq, Int.reduceToNat, Nat.zero_mul, Nat.zero_add, Nat.mul_one, ne_eq, not_false_eq_true, not_true_eq_false, true_and, and_true, decide_true, decide_false, Bool.not_true, Bool.not_false, Bool.false_eq_true, and_self, Nat.add_zero]
    cases m
    · have hcn' : chI false X (i + 1) = L ++ [((i : Int), (i : Int) + 1)] := by rw [hcn]; simp
      have hwL : IntKind.i64.wrap ((L.length : Int) - 1) = (L.length : Int) - 1 := wrap_in (by omega) (by omega)
      try simp only [s0, s2, s11, s12, s13, hlt, hx, hw, hlk, hwL, or_false, false_or, Bool.and_self, Bool.and_true, Bool.true_and, Bool.and_false, Bool.false_and, Bool.not_not, Int.cast_ofNat_Int, beq_self_eq_true, Heap.set_same, Heap.set_set, Heap.kill_kset, Int.toNat_natCast, Int.natCast_nonneg, Int.ofNat_lt, Int.ofNat_le, Int.natCast_inj, pmC, pmE, pmS, pmV, pmK, pmQ, pmL, pmX, pmF, pmO, pmA, pmR, pmW, pmB, Option.isSome_some, ft, olds_ints, olds_bools, ↓reduceIte, Nat.reduceEqDiff, reduceCtorEq, Nat.reduceAdd, Nat.reduceMul, Nat.reduceLeDiff, Nat.reduceLT, Int.reduceLE, Int.reduceLT, Int.reduceEq, Int.reduceToNat, Nat.zero_mul, Nat.zero_add, Nat.mul_one, ne_eq, not_false_eq_true, not_true_eq_false, true_and, and_true, decide_true, decide_false, Bool.not_true, Bool.not_false, Bool.false_eq_true, and_self, Nat.add_zero]
      refine add9 _ fun v' h4 a4 l4 => ?_
      try simp only [s13, hw, or_false, false_or, Bool.and_self, Bool.and_true, Bool.true_and, Bool.and_false, Bool.false_and, Bool.not_not, Int.cast_ofNat_Int, beq_self_eq_true, Heap.set_same, Heap.set_set, Heap.kill_kset, Int.toNat_natCast, Int.natCast_nonneg, Int.ofNat_lt, Int.ofNat_le, Int.natCast_inj, pmC, pmE, pmS, pmV, pmK, pmQ, pmL, pmX, pmF, pmO, pmA, pmR, pmW, pmB, Option.isSome_some, ft, olds_ints, olds_bools, ↓reduceIte, Nat.reduceEqDiff, reduceCtorEq, Nat.reduceAdd, Nat.reduceMul, Nat.reduceLeDiff, Nat.reduceLT, Int.reduceLE, Int.reduceLT, Int.reduceEq, Int.reduceToNat, Nat.zero_mul, Nat.zero_add, Nat.mul_one, ne_eq, not_false_eq_true, not_true_eq_false, true_and, and_true, decide_true, decide_false, Bool.not_true, Bool.not_false, Bool.false_eq_true, and_self, Nat.add_zero]
      exact fin9 _ _ (by rw [hcn']; simpa [put] using a4) l4 (by simp [put]) (by simp [put]) (by simp [put]) (by simp [put]) (by simp [put])
    · by_cases hL : L = []
      · subst hL
        have hw0 : IntKind.i64.wrap ((0 : Int) - 1) = -1 := by decide
        have hcn' : chI true X (i + 1) = [] ++ [((i : Int), (i : Int) + 1)] := by rw [hcn]; simp
        have hlk' : ∀ (K : Kt) (h : Heap), lenK (some 1) (σ 7) K h = K (.int .i64 0) h := hlk
        try simp only [s0, s2, s11, s12, s13, hlt, hx, hw, hlk', hw0, or_false, false_or, Bool.and_self, Bool.and_true, Bool.true_and, Bool.and_false, Bool.false_and, Bool.not_not, Int.cast_ofNat_Int, beq_self_eq_true, Heap.set_same, Heap.set_set, Heap.kill_kset, Int.toNat_natCast, Int.natCast_nonneg, Int.ofNat_lt, Int.ofNat_le, Int.natCast_inj, pmC, pmE, pmS, pmV, pmK, pmQ, pmL, pmX, pmF, pmO, pmA, pmR, pmW, pmB, Option.isSome_some, ft, olds_ints, olds_bools, ↓reduceIte, Nat.reduceEqDiff, reduceCtorEq, Nat.reduceAdd, Nat.reduceMul, Nat.reduceLeDiff, Nat.reduceLT, Int.reduceLE, Int.reduceLT, Int.reduceEq, Int.reduceToNat, Nat.zero_mul, Nat.zero_add, Nat.mul_one, ne_eq, not_false_eq_true, not_true_eq_false, true_and, and_true, decide_true, decide_false, Bool.not_true, Bool.not_false, Bool.false_eq_true, and_self, Nat.add_zero]
        refine add9 _ fun v' h4 a4 l4 => ?_
        try simp only [s13, hw, or_false, false_or, Bool.and_self, Bool.and_true, Bool.true_and, Bool.and_false, Bool.false_and, Bool.not_not, Int.cast_ofNat_Int, beq_self_eq_true, Heap.set_same, Heap.set_set, Heap.kill_kset, Int.toNat_natCast, Int.natCast_nonneg, Int.ofNat_lt, Int.ofNat_le, Int.natCast_inj, pmC, pmE, pmS, pmV, pmK, pmQ, pmL, pmX, pmF, pmO, pmA, pmR, pmW, pmB, Option.isSome_some, ft, olds_ints, olds_bools, ↓reduceIte, Nat.reduceEqDiff, reduceCtorEq, Nat.reduceAdd, Nat.reduceMul, Nat.reduceLeDiff, Nat.reduceLT, Int.reduceLE, Int.reduceLT, Int.reduceEq, Int.reduceToNat, Nat.zero_mul, Nat.zero_add, Nat.mul_one, ne_eq, not_false_eq_true, not_true_eq_false, true_and, and_true, decide_true, decide_false, Bool.not_true, Bool.not_false, Bool.false_eq_true, and_self, Nat.add_zero]
        exact fin9 _ _ (by rw [hcn']; simpa [put] using a4) l4 (by simp [put]) (by simp [put]) (by simp [put]) (by simp [put]) (by simp [put])
      · obtain ⟨L', q, rfl⟩ := last_cut L hL
        obtain ⟨b, s7, hn, hb, hbl⟩ := a.resolve_left fun e => hL (List.eq_nil_of_length_eq_zero e.2.1)
        have hlen : (L' ++ [q]).length = L'.length + 1 := by simp
        have hw1 : IntKind.i64.wrap (((L'.length + 1 : Nat) : Int) - 1) = (L'.length : Int) := by rw [wrap_in (by omega) (by omega)]; omega
        cases hm : markT c
        · have hcn' : chI true X (i + 1) = (L' ++ [q]) ++ [((i : Int), (i : Int) + 1)] := by rw [hcn, hm]; simp
          rw [hlen] at hlk
          try simp only [s0, s2, s11, s12, s13, hlt, hx, hw, hlk, hw1, or_false, false_or, Bool.and_self, Bool.and_true, Bool.true_and, Bool.and_false, Bool.false_and, Bool.not_not, Int.cast_ofNat_Int, beq_self_eq_true, Heap.set_same, Heap.set_set, Heap.kill_kset, Int.toNat_natCast, Int.natCast_nonneg, Int.ofNat_lt, Int.ofNat_le, Int.natCast_inj, pmC, pmE, pmS, pmV, pmK, pmQ, pmL, pmX, pmF, pmO, pmA, pmR, pmW, pmB, Option.isSome_some, ft, olds_ints, olds_bools, ↓reduceIte, Nat.reduceEqDiff, reduceCtorEq, Nat.reduceAdd, Nat.reduceMul, Nat.reduceLeDiff, Nat.reduceLT, Int.reduceLE, Int.reduceLT, Int.reduceEq, Int.reduceToNat, Nat.zero_mul, Nat.zero_add, Nat.mul_one, ne_eq, not_false_eq_true, not_true_eq_false, true_and, and_true, decide_true, decide_false, Bool.not_true, Bool.not_false, Bool.false_eq_true, and_self, Nat.add_zero]
          refine Mark p2 hp' c _ ?_
          rw [hm]
          try simp only [s13, hw, or_false, false_or, Bool.and_self, Bool.and_true, Bool.true_and, Bool.and_false, Bool.false_and, Bool.not_not, Int.cast_ofNat_Int, beq_self_eq_true, Heap.set_same, Heap.set_set, Heap.kill_kset, Int.toNat_natCast, Int.natCast_nonneg, Int.ofNat_lt, Int.ofNat_le, Int.natCast_inj, pmC, pmE, pmS, pmV, pmK, pmQ, pmL, pmX, pmF, pmO, pmA, pmR, pmW, pmB, Option.isSome_some, ft, olds_ints, olds_bools, ↓reduceIte, Nat.reduceEqDiff, reduceCtorEq, Nat.reduceAdd, Nat.reduceMul, Nat.reduceLeDiff, Nat.reduceLT, Int.reduceLE, Int.reduceLT, Int.reduceEq, Int.reduceToNat, Nat.zero_mul, Nat.zero_add, Nat.mul_one, ne_eq, not_false_eq_true, not_true_eq_false, true_and, and_true, decide_true, decide_false, Bool.not_true, Bool.not_false, Bool.false_eq_true, and_self, Nat.add_zero]
          refine add9 _ fun v' h4 a4 l4 => ?_
          try simp only [s13, hw, or_false, false_or, Bool.and_self, Bool.and_true, Bool.true_and, Bool.and_false, Bool.false_and, Bool.not_not, Int.cast_ofNat_Int, beq_self_eq_true, Heap.set_same, Heap.set_set, Heap.kill_kset, Int.toNat_natCast, Int.natCast_nonneg, Int.ofNat_lt, Int.ofNat_le, Int.natCast_inj, pmC, pmE, pmS, pmV, pmK, pmQ, pmL, pmX, pmF, pmO, pmA, pmR, pmW, pmB, Option.isSome_some, ft, olds_ints, olds_bools, ↓reduceIte, Nat.reduceEqDiff, reduceCtorEq, Nat.reduceAdd, Nat.reduceMul, Nat.reduceLeDiff, Nat.reduceLT, Int.reduceLE, Int.reduceLT, Int.reduceEq, Int.reduceToNat, Nat.zero_mul, Nat.zero_add, Nat.mul_one, ne_eq, not_false_eq_true, not_true_eq_false, true_and, and_true, decide_true, decide_false, Bool.not_true, Bool.not_false, Bool.false_eq_true, and_self, Nat.add_zero]
          exact fin9 _ _ (by rw [hcn']; simpa [put] using a4) l4 (by simp [put]) (by simp [put]) (by simp [put]) (by simp [put]) (by simp [put])
        · have hcn' : chI true X (i + 1) = L' ++ [(q.1, (i : Int) + 1)] := by rw [hcn, hm]; simp [upL_app]
          rw [hlen] at s7 hcl
          have hll : L'.length < L'.length + 1 := by omega
          have hle : L'.length * 2 + 1 < ((L' ++ [q]).flatMap sp).length := by rw [flat_length sp 2 sp_len, hlen]; omega
          try simp only [s0, s2, s7, s11, s12, s13, hlt, hx, hw, hw1, hb, or_false, false_or, Bool.and_self, Bool.and_true, Bool.true_and, Bool.and_false, Bool.false_and, Bool.not_not, Int.cast_ofNat_Int, beq_self_eq_true, Heap.set_same, Heap.set_set, Heap.kill_kset, Int.toNat_natCast, Int.natCast_nonneg, Int.ofNat_lt, Int.ofNat_le, Int.natCast_inj, pmC, pmE, pmS, pmV, pmK, pmQ, pmL, pmX, pmF, pmO, pmA, pmR, pmW, pmB, Option.isSome_some, ft, olds_ints, olds_bools, ↓reduceIte, Nat.reduceEqDiff, reduceCtorEq, Nat.reduceAdd, Nat.reduceMul, Nat.reduceLeDiff, Nat.reduceLT, Int.reduceLE, Int.reduceLT, Int.reduceEq, Int.reduceToNat, Nat.zero_mul, Nat.zero_add, Nat.mul_one, ne_eq, not_false_eq_true, not_true_eq_false, true_and, and_true, decide_true, decide_false, Bool.not_true, Bool.not_false, Bool.false_eq_true, and_self, Nat.add_zero]
          refine Mark p2 hp' c _ ?_
          rw [hm]
          try simp only [s0, s2, s7, s11, s12, s13, hw, hb, hll, hle, or_false, false_or, Bool.and_self, Bool.and_true, Bool.true_and, Bool.and_false, Bool.false_and, Bool.not_not, Int.cast_ofNat_Int, beq_self_eq_true, Heap.set_same, Heap.set_set, Heap.kill_kset, Int.toNat_natCast, Int.natCast_nonneg, Int.ofNat_lt, Int.ofNat_le, Int.natCast_inj, pmC, pmE, pmS, pmV, pmK, pmQ, pmL, pmX, pmF, pmO, pmA, pmR, pmW, pmB, Option.isSome_some, ft, olds_ints, olds_bools, ↓reduceIte, Nat.reduceEqDiff, reduceCtorEq, Nat.reduceAdd, Nat.reduceMul, Nat.reduceLeDiff, Nat.reduceLT, Int.reduceLE, Int.reduceLT, Int.reduceEq, Int.reduceToNat, Nat.zero_mul, Nat.zero_add, Nat.mul_one, ne_eq, not_false_eq_true, not_true_eq_false, true_and, and_true, decide_true, decide_false, Bool.not_true, Bool.not_false, Bool.false_eq_true, and_self, Nat.add_zero]
          refine ⟨by omega, fin9 _ _ ?_ (Heap.le_set lh hn) (by simp [put]) (by simp [put]) (by simp [put]) (by simp [put]) (by simp [put])⟩
          rw [hcn', wr_last]
          have e7 : (L' ++ [(q.1, (i : Int) + 1)]).length = L'.length + 1 := by simp
          rw [e7]
          simp only [put, reduceCtorEq, Nat.reduceEqDiff, if_false]
          rw [s7]
          exact Acc.buf hn (Heap.set_same _ _ _) (by rw [flat_length sp 2 sp_len, e7])
  · have e : i = X.length := by omega
    subst e
    have hnl := Nat.lt_irrefl X.length
    try simp only [s12, s13, hnl, or_false, false_or, Bool.and_self, Bool.and_true, Bool.true_and, Bool.and_false, Bool.false_and, Bool.not_not, Int.cast_ofNat_Int, beq_self_eq_true, Heap.set_same, Heap.set_set, Heap.kill_kset, Int.toNat_natCast, Int.natCast_nonneg, Int.ofNat_lt, Int.ofNat_le, Int.natCast_inj, pmC, pmE, pmS, pmV, pmK, pmQ, pmL, pmX, pmF, pmO, pmA, pmR, pmW, pmB, Option.isSome_some, ft, olds_ints, olds_bools, ↓reduceIte, Nat.reduceEqDiff, reduceCtorEq, Nat.reduceAdd, Nat.reduceMul, Nat.reduceLeDiff, Nat.reduceLT, Int.reduceLE, Int.reduceLT, Int.reduceEq, Int.reduceToNat, Nat.zero_mul, Nat.zero_add, Nat.mul_one, ne_eq, not_false_eq_true, not_true_eq_false, true_and, and_true, decide_true, decide_false, Bool.not_true, Bool.not_false, Bool.false_eq_true, and_self, Nat.add_zero]
    refine a.fin lh ?_
    rw [old_sp]; exact k
theorem ChunksR (fr : Bool) (X : List Int) (hl : X.length ≤ 1000000) (m : Bool) (h : Heap) {K : PV → Heap → Prop} (k : K (.list true 2 (chk m X).length ((chk m X).flatMap sp)) h) :
    CanP Try.prog 13 [.list fr 1 X.length (X.map (.int .i64)), .bool m] h K := by
  refine e13 rfl ?_
  try simp only [c13, r13_0, r13_1, r13_2, r13_3, r13_4, r13_5, r13_6, r13_7, r13_8, r13_9, or_false, false_or, Bool.and_self, Bool.and_true, Bool.true_and, Bool.and_false, Bool.false_and, Bool.not_not, Int.cast_ofNat_Int, beq_self_eq_true, Heap.set_same, Heap.set_set, Heap.kill_kset, Int.toNat_natCast, Int.natCast_nonneg, Int.ofNat_lt, Int.ofNat_le, Int.natCast_inj, pmC, pmE, pmS, pmV, pmK, pmQ, pmL, pmX, pmF, pmO, pmA, pmR, pmW, pmB, Option.isSome_some, ft, olds_ints, olds_bools, ↓reduceIte, Nat.reduceEqDiff, reduceCtorEq, Nat.reduceAdd, Nat.reduceMul, Nat.reduceLeDiff, Nat.reduceLT, Int.reduceLE, Int.reduceLT, Int.reduceEq, Int.reduceToNat, Nat.zero_mul, Nat.zero_add, Nat.mul_one, ne_eq, not_false_eq_true, not_true_eq_false, true_and, and_true, decide_true, decide_false, Bool.not_true, Bool.not_false, Bool.false_eq_true, and_self, Nat.add_zero]
  refine pwp_up X.length (fun i σ h' => Acc h h' (σ 5) 2 (chI m X i).length ((chI m X i).flatMap sp) ∧ h.le h' ∧ σ 0 = .list false 1 X.length (X.map (.int .i64)) ∧ σ 1 = .bool m ∧ σ 6 = .int .i64 i) ?_ ?_
  · exact ⟨Acc.nil _ _ _, Heap.le_refl _, rfl, rfl, rfl⟩
  rintro i σ h' K' hi ⟨a, lh, s0, s1, s6⟩ next
  rcases Nat.lt_or_ge i X.length with hlt | hge
  · have hw : IntKind.i64.wrap ((i : Int) + 1) = (i : Int) + 1 := wrap_in (by omega) (by omega)
    have hx := getm (PV.int .i64) X (i := i) (by omega)
    have hcl := chI_len m X i
    have hcn : chI m X (i + 1) = if m && (!(chI m X i).isEmpty && markT (X.getD i default)) then upL (chI m X i) ((i : Int) + 1) else chI m X i ++ [((i : Int), (i : Int) + 1)] := rfl
    generalize X.getD i default = c at *
    generalize chI m X i = L at *
    have add9 : ∀ (K4 : Kt), (∀ v' h4, Acc h h4 v' 2 (L ++ [((i : Int), (i : Int) + 1)]).length ((L ++ [((i : Int), (i : Int) + 1)]).flatMap sp) → h.le h4 → K4 v' h4) → ap2K (some (1, [.int .i64 i, .int .i64 ((i : Int) + 1)])) 2 16 (σ 5) K4 h' := by
      intro K4 k4
      refine a.app lh (by decide) rfl (by omega) (by simp only [maxLen]; omega) fun v' h4 a4 l4 sd => ?_
      refine k4 v' h4 ?_ l4
      rw [List.length_append, List.flatMap_append]
      simpa [sp] using a4
    have fin9 : ∀ (σ' : Sl) (h4 : Heap), Acc h h4 (σ' 5) 2 (chI m X (i + 1)).length ((chI m X (i + 1)).flatMap sp) → h.le h4 → σ' 0 = σ 0 → σ' 1 = σ 1 → σ' 6 = .int .i64 ((i : Int) + 1) → K' σ' h4 := fun σ' h4 a4 l4 q0 q1 q6 =>
      next hlt _ _ ⟨a4, l4, by rw [q0, s0], by rw [q1, s1], by rw [q6]; rfl⟩
    have hlk : ∀ (K : Kt) (h : Heap), lenK (some 1) (σ 5) K h = K (.int .i64 L.length) h := fun K h => by
      rcases a with ⟨e, e2, _⟩ | ⟨b, e, _⟩
      · rw [e, e2]; try simp only [or_false, false_or, Bool.and_self, Bool.and_true, Bool.true_and, Bool.and_false, Bool.false_and, Bool.not_not, Int.cast_ofNat_Int, beq_self_eq_true, Heap.set_same, Heap.set_set, Heap.kill_kset, Int.toNat_natCast, Int.natCast_nonneg, Int.ofNat_lt, Int.ofNat_le, Int.natCast_inj, pmC, pmE, pmS, pmV, pmK, pmQ, pmL, pmX, pmF, pmO, pmA, pmR, pmW, pmB, Option.isSome_some, ft, olds_ints, olds_bools, ↓reduceIte, Nat.reduceEqDiff, reduceCtorEq, Nat.reduceAdd, Nat.reduceMul, Nat.reduceLeDiff, Nat.reduceLT, Int.reduceLE, Int.reduceLT, Int.reduceEq, Int.reduceToNat, Nat.zero_mul, Nat.zero_add, Nat.mul_one, ne_eq, not_false_eq_true, not_true_eq_false, true_and, and_true, decide_true, decide_false, Bool.not_true, Bool.not_false, Bool.false_eq_true, and_self, Nat.add_zero]
      · rw [e]; try simp only [or_false, false_or, Bool.and_self, Bool.and_true, Bool.true_and, Bool.and_false, Bool.false_and, Bool.not_not, Int.cast_ofNat_Int, beq_self_eq_true, Heap.set_same, Heap.set_set, Heap.kill_kset, Int.toNat_natCast, Int.natCast_nonneg, Int.ofNat_lt, Int.ofNat_le, Int.natCast_inj, pmC, pmE, pmS, pmV, pmK, pmQ, pmL, pmX, pmF, pmO, pmA, pmR, pmW, pmB, Option.isSome_some, ft, olds_ints, olds_bools, ↓reduceIte, Nat.reduceEqDiff, reduceCtorEq, Nat.reduceAdd, Nat.reduceMul, Nat.reduceLeDiff, Nat.reduceLT, Int.reduceLE, Int.reduceLT, Int.reduceEq, Int.reduceToNat, Nat.zero_mul, Nat.zero_add, Nat.mul_one, ne_eq, not_false_eq_true, not_true_eq_false, true_and, and_true, decide_true, decide_false, Bool.not_true, Bool.not_false, Bool.false_eq_true, and_self, Nat.add_zero]
    cases m
    · have hcn' : chI false X (i + 1) = L ++ [((i : Int), (i : Int) + 1)] := by rw [hcn]; simp
      try simp only [s0, s1, s6, hlt, hx, hw, hlk, or_false, false_or, Bool.and_self, Bool.and_true, Bool.true_and, Bool.and_false, Bool.false_and, Bool.not_not, Int.cast_ofNat_Int, beq_self_eq_true, Heap.set_same, Heap.set_set, Heap.kill_kset, Int.toNat_natCast, Int.natCast_nonneg, Int.ofNat_lt, Int.ofNat_le, Int.natCast_inj, pmC, pmE, pmS, pmV, pmK, pmQ, pmL, pmX, pmF, pmO, pmA, pmR, pmW, pmB, Option.isSome_some, ft, olds_ints, olds_bools, ↓reduceIte, Nat.reduceEqDiff, reduceCtorEq, Nat.reduceAdd, Nat.reduceMul, Nat.reduceLeDiff, Nat.reduceLT, Int.reduceLE, Int.reduceLT, Int.reduceEq, Int.reduceToNat, Nat.zero_mul, Nat.zero_add, Nat.mul_one, ne_eq, not_false_eq_true, not_true_eq_false, true_and, and_true, decide_true, decide_false, Bool.not_true, Bool.not_false, Bool.false_eq_true, and_self, Nat.add_zero]
      refine add9 _ fun v' h4 a4 l4 => ?_
      try simp only [s6, hw, or_false, false_or, Bool.and_self, Bool.and_true, Bool.true_and, Bool.and_false, Bool.false_and, Bool.not_not, Int.cast_ofNat_Int, beq_self_eq_true, Heap.set_same, Heap.set_set, Heap.kill_kset, Int.toNat_natCast, Int.natCast_nonneg, Int.ofNat_lt, Int.ofNat_le, Int.natCast_inj, pmC, pmE, pmS, pmV, pmK, pmQ, pmL, pmX, pmF, pmO, pmA, pmR, pmW, pmB, Option.isSome_some, ft, olds_ints, olds_bools, ↓reduceIte, Nat.reduceEqDiff, reduceCtorEq, Nat.reduceAdd, Nat.reduceMul, Nat.reduceLeDiff, Nat.reduceLT, Int.reduceLE, Int.reduceLT, Int.reduceEq, Int.reduceToNat, Nat.zero_mul, Nat.zero_add, Nat.mul_one, ne_eq, not_false_eq_true, not_true_eq_false, true_and, and_true, decide_true, decide_false, Bool.not_true, Bool.not_false, Bool.false_eq_true, and_self, Nat.add_zero]
      exact fin9 _ _ (by rw [hcn']; simpa [put] using a4) l4 (by simp [put]) (by simp [put]) (by simp [put])
    · by_cases hL : L = []
      · subst hL
        have hcn' : chI true X (i + 1) = [] ++ [((i : Int), (i : Int) + 1)] := by rw [hcn]; simp
        have hlk' : ∀ (K : Kt) (h : Heap), lenK (some 1) (σ 5) K h = K (.int .i64 0) h := hlk
        have hn0 : ¬ (0 : Int) < 0 := by decide
        try simp only [s0, s1, s6, hlt, hx, hw, hlk', hn0, or_false, false_or, Bool.and_self, Bool.and_true, Bool.true_and, Bool.and_false, Bool.false_and, Bool.not_not, Int.cast_ofNat_Int, beq_self_eq_true, Heap.set_same, Heap.set_set, Heap.kill_kset, Int.toNat_natCast, Int.natCast_nonneg, Int.ofNat_lt, Int.ofNat_le, Int.natCast_inj, pmC, pmE, pmS, pmV, pmK, pmQ, pmL, pmX, pmF, pmO, pmA, pmR, pmW, pmB, Option.isSome_some, ft, olds_ints, olds_bools, ↓reduceIte, Nat.reduceEqDiff, reduceCtorEq, Nat.reduceAdd, Nat.reduceMul, Nat.reduceLeDiff, Nat.reduceLT, Int.reduceLE, Int.reduceLT, Int.reduceEq, Int.reduceToNat, Nat.zero_mul, Nat.zero_add, Nat.mul_one, ne_eq, not_false_eq_true, not_true_eq_false, true_and, and_true, decide_true, decide_false, Bool.not_true, Bool.not_false, Bool.false_eq_true, and_self, Nat.add_zero]
        refine add9 _ fun v' h4 a4 l4 => ?_
        try simp only [s6, hw, or_false, false_or, Bool.and_self, Bool.and_true, Bool.true_and, Bool.and_false, Bool.false_and, Bool.not_not, Int.cast_ofNat_Int, beq_self_eq_true, Heap.set_same, Heap.set_set, Heap.kill_kset, Int.toNat_natCast, Int.natCast_nonneg, Int.ofNat_lt, Int.ofNat_le, Int.natCast_inj, pmC, pmE, pmS, pmV, pmK, pmQ, pmL, pmX, pmF, pmO, pmA, pmR, pmW, pmB, Option.isSome_some, ft, olds_ints, olds_bools, ↓reduceIte, Nat.reduceEqDiff, reduceCtorEq, Nat.reduceAdd, Nat.reduceMul, Nat.reduceLeDiff, Nat.reduceLT, Int.reduceLE, Int.reduceLT, Int.reduceEq, Int.reduceToNat, Nat.zero_mul, Nat.zero_add, Nat.mul_one, ne_eq, not_false_eq_true, not_true_eq_false, true_and, and_true, decide_true, decide_false, Bool.not_true, Bool.not_false, Bool.false_eq_true, and_self, Nat.add_zero]
        exact fin9 _ _ (by rw [hcn']; simpa [put] using a4) l4 (by simp [put]) (by simp [put]) (by simp [put])
      · obtain ⟨L', q, rfl⟩ := last_cut L hL
        obtain ⟨b, s5, hn, hb, hbl⟩ := a.resolve_left fun e => hL (List.eq_nil_of_length_eq_zero e.2.1)
        have hlen : (L' ++ [q]).length = L'.length + 1 := by simp
        have hw1 : IntKind.i64.wrap (((L'.length + 1 : Nat) : Int) - 1) = (L'.length : Int) := by rw [wrap_in (by omega) (by omega)]; omega
        have hp0 : (0 : Int) < ((L'.length + 1 : Nat) : Int) := by omega
        cases hm : markT c
        · have hcn' : chI true X (i + 1) = (L' ++ [q]) ++ [((i : Int), (i : Int) + 1)] := by rw [hcn, hm]; simp
          rw [hlen] at hlk
          try simp only [s0, s1, s6, hlt, hx, hw, hlk, hw1, hp0, or_false, false_or, Bool.and_self, Bool.and_true, Bool.true_and, Bool.and_false, Bool.false_and, Bool.not_not, Int.cast_ofNat_Int, beq_self_eq_true, Heap.set_same, Heap.set_set, Heap.kill_kset, Int.toNat_natCast, Int.natCast_nonneg, Int.ofNat_lt, Int.ofNat_le, Int.natCast_inj, pmC, pmE, pmS, pmV, pmK, pmQ, pmL, pmX, pmF, pmO, pmA, pmR, pmW, pmB, Option.isSome_some, ft, olds_ints, olds_bools, ↓reduceIte, Nat.reduceEqDiff, reduceCtorEq, Nat.reduceAdd, Nat.reduceMul, Nat.reduceLeDiff, Nat.reduceLT, Int.reduceLE, Int.reduceLT, Int.reduceEq, Int.reduceToNat, Nat.zero_mul, Nat.zero_add, Nat.mul_one, ne_eq, not_false_eq_true, not_true_eq_false, true_and, and_true, decide_true, decide_false, Bool.not_true, Bool.not_false, Bool.false_eq_true, and_self, Nat.add_zero]
          refine MarkR c _ ?_
          rw [hm]
          try simp only [s6, hw, or_false, false_or, Bool.and_self, Bool.and_true, Bool.true_and, Bool.and_false, Bool.false_and, Bool.not_not, Int.cast_ofNat_Int, beq_self_eq_true, Heap.set_same, Heap.set_set, Heap.kill_kset, Int.toNat_natCast, Int.natCast_nonneg, Int.ofNat_lt, Int.ofNat_le, Int.natCast_inj, pmC, pmE, pmS, pmV, pmK, pmQ, pmL, pmX, pmF, pmO, pmA, pmR, pmW, pmB, Option.isSome_some, ft, olds_ints, olds_bools, ↓reduceIte, Nat.reduceEqDiff, reduceCtorEq, Nat.reduceAdd, Nat.reduceMul, Nat.reduceLeDiff, Nat.reduceLT, Int.reduceLE, Int.reduceLT, Int.reduceEq, Int.reduceToNat, Nat.zero_mul, Nat.zero_add, Nat.mul_one, ne_eq, not_false_eq_true, not_true_eq_false, true_and, and_true, decide_true, decide_false, Bool.not_true, Bool.not_false, Bool.false_eq_true, and_self, Nat.add_zero]
          refine add9 _ fun v' h4 a4 l4 => ?_
          try simp only [s6, hw, or_false, false_or, Bool.and_self, Bool.and_true, Bool.true_and, Bool.and_false, Bool.false_and, Bool.not_not, Int.cast_ofNat_Int, beq_self_eq_true, Heap.set_same, Heap.set_set, Heap.kill_kset, Int.toNat_natCast, Int.natCast_nonneg, Int.ofNat_lt, Int.ofNat_le, Int.natCast_inj, pmC, pmE, pmS, pmV, pmK, pmQ, pmL, pmX, pmF, pmO, pmA, pmR, pmW, pmB, Option.isSome_some, ft, olds_ints, olds_bools, ↓reduceIte, Nat.reduceEqDiff, reduceCtorEq, Nat.reduceAdd, Nat.reduceMul, Nat.reduceLeDiff, Nat.reduceLT, Int.reduceLE, Int.reduceLT, Int.reduceEq, Int.reduceToNat, Nat.zero_mul, Nat.zero_add, Nat.mul_one, ne_eq, not_false_eq_true, not_true_eq_false, true_and, and_true, decide_true, decide_false, Bool.not_true, Bool.not_false, Bool.false_eq_true, and_self, Nat.add_zero]
          exact fin9 _ _ (by rw [hcn']; simpa [put] using a4) l4 (by simp [put]) (by simp [put]) (by simp [put])
        · have hcn' : chI true X (i + 1) = L' ++ [(q.1, (i : Int) + 1)] := by rw [hcn, hm]; simp [upL_app]
          rw [hlen] at s5 hcl
          have hll : L'.length < L'.length + 1 := by omega
          have hle : L'.length * 2 + 1 < ((L' ++ [q]).flatMap sp).length := by rw [flat_length sp 2 sp_len, hlen]; omega
          try simp only [s0, s1, s5, s6, hlt, hx, hw, hw1, hb, hp0, or_false, false_or, Bool.and_self, Bool.and_true, Bool.true_and, Bool.and_false, Bool.false_and, Bool.not_not, Int.cast_ofNat_Int, beq_self_eq_true, Heap.set_same, Heap.set_set, Heap.kill_kset, Int.toNat_natCast, Int.natCast_nonneg, Int.ofNat_lt, Int.ofNat_le, Int.natCast_inj, pmC, pmE, pmS, pmV, pmK, pmQ, pmL, pmX, pmF, pmO, pmA, pmR, pmW, pmB, Option.isSome_some, ft, olds_ints, olds_bools, ↓reduceIte, Nat.reduceEqDiff, reduceCtorEq, Nat.reduceAdd, Nat.reduceMul, Nat.reduceLeDiff, Nat.reduceLT, Int.reduceLE, Int.reduceLT, Int.reduceEq, Int.reduceToNat, Nat.zero_mul, Nat.zero_add, Nat.mul_one, ne_eq, not_false_eq_true, not_true_eq_false, true_and, and_true, decide_true, decide_false, Bool.not_true, Bool.not_false, Bool.false_eq_true, and_self, Nat.add_zero]
          refine MarkR c _ ?_
          rw [hm]
          try simp only [s0, s1, s5, s6, hw, hb, hll, hle, hw1, or_false, false_or, Bool.and_self, Bool.and_true, Bool.true_and, Bool.and_false, Bool.false_and, Bool.not_not, Int.cast_ofNat_Int, beq_self_eq_true, Heap.set_same, Heap.set_set, Heap.kill_kset, Int.toNat_natCast, Int.natCast_nonneg, Int.ofNat_lt, Int.ofNat_le, Int.natCast_inj, pmC, pmE, pmS, pmV, pmK, pmQ, pmL, pmX, pmF, pmO, pmA, pmR, pmW, pmB, Option.isSome_some, ft, olds_ints, olds_bools, ↓reduceIte, Nat.reduceEqDiff, reduceCtorEq, Nat.reduceAdd, Nat.reduceMul, Nat.reduceLeDiff, Nat.reduceLT, Int.reduceLE, Int.reduceLT, Int.reduceEq, Int.reduceToNat, Nat.zero_mul, Nat.zero_add, Nat.mul_one, ne_eq, not_false_eq_true, not_true_eq_false, true_and, and_true, decide_true, decide_false, Bool.not_true, Bool.not_false, Bool.false_eq_true, and_self, Nat.add_zero]
          refine ⟨by omega, fin9 _ _ ?_ (Heap.le_set lh hn) (by simp [put]) (by simp [put]) (by simp [put])⟩
          rw [hcn', wr_last]
          have e7 : (L' ++ [(q.1, (i : Int) + 1)]).length = L'.length + 1 := by simp
          rw [e7]
          simp only [put, reduceCtorEq, Nat.reduceEqDiff, if_false]
          rw [s5]
          exact Acc.buf hn (Heap.set_same _ _ _) (by rw [flat_length sp 2 sp_len, e7])
  · have e : i = X.length := by omega
    subst e
    have hnl := Nat.lt_irrefl X.length
    try simp only [s0, s6, hnl, or_false, false_or, Bool.and_self, Bool.and_true, Bool.true_and, Bool.and_false, Bool.false_and, Bool.not_not, Int.cast_ofNat_Int, beq_self_eq_true, Heap.set_same, Heap.set_set, Heap.kill_kset, Int.toNat_natCast, Int.natCast_nonneg, Int.ofNat_lt, Int.ofNat_le, Int.natCast_inj, pmC, pmE, pmS, pmV, pmK, pmQ, pmL, pmX, pmF, pmO, pmA, pmR, pmW, pmB, Option.isSome_some, ft, olds_ints, olds_bools, ↓reduceIte, Nat.reduceEqDiff, reduceCtorEq, Nat.reduceAdd, Nat.reduceMul, Nat.reduceLeDiff, Nat.reduceLT, Int.reduceLE, Int.reduceLT, Int.reduceEq, Int.reduceToNat, Nat.zero_mul, Nat.zero_add, Nat.mul_one, ne_eq, not_false_eq_true, not_true_eq_false, true_and, and_true, decide_true, decide_false, Bool.not_true, Bool.not_false, Bool.false_eq_true, and_self, Nat.add_zero]
    refine a.fin lh ?_
    rw [old_sp]; exact k
/-! ### Chunks are parts -/
def cutS (X : List Int) (s : Int × Int) : List Int := (X.drop s.1.toNat).take (s.2.toNat - s.1.toNat)
theorem chI_ok (m : Bool) (X : List Int) : ∀ i, i ≤ X.length → (chI m X i).flatMap (cutS X) = X.take i ∧ (∀ s ∈ chI m X i, 0 ≤ s.1 ∧ s.1 < s.2 ∧ s.2 ≤ (i : Int)) ∧ (∀ (L : List (Int × Int)) (q : Int × Int), chI m X i = L ++ [q] → q.2 = (i : Int)) ∧ (0 < i → chI m X i ≠ [])
  | 0, _ => by simp [chI]
  | i + 1, hi => by
    obtain ⟨h1, h2, h3, h4⟩ := chI_ok m X i (by omega)
    have hx : X.take (i + 1) = X.take i ++ [X.getD i default] := by rw [List.take_add_one, List.getD, List.getElem?_eq_getElem (by omega)]; rfl
    unfold chI
    split
    · rename_i hc
      have hL : chI m X i ≠ [] := fun e => by rw [e] at hc; simp at hc
      obtain ⟨L, q, e⟩ := last_cut _ hL
      have hq := h3 L q e
      have hq2 := h2 q (by rw [e]; simp)
      rw [e] at h1 h2 ⊢
      rw [upL_app]
      refine ⟨?_, fun s hs => ?_, fun L' q' e' => ?_, fun _ => by simp⟩
      · rw [hx, ← h1]
        simp only [List.flatMap_append, List.flatMap_cons, List.flatMap_nil, List.append_nil, List.append_assoc]
        congr 1
        unfold cutS
        simp only [hq]
        rw [show (((i : Int) + 1).toNat - q.1.toNat) = ((i : Int).toNat - q.1.toNat) + 1 by omega, List.take_add_one]
        congr 1
        rw [List.getElem?_drop, show q.1.toNat + ((i : Int).toNat - q.1.toNat) = i by omega, List.getElem?_eq_getElem (by omega), List.getD, List.getElem?_eq_getElem (by omega)]; rfl
      · rcases List.mem_append.1 hs with q' | q'
        · have := h2 s (by simp [q']); omega
        · rw [List.mem_singleton.1 q']; simp only; omega
      · have := List.append_inj_right' e' rfl
        simp only [List.cons.injEq, and_true] at this
        rw [← this]; simp
    · refine ⟨?_, fun s hs => ?_, fun L' q' e' => ?_, fun _ => by simp⟩
      · rw [List.flatMap_append, h1, hx]
        simp only [List.flatMap_cons, List.flatMap_nil, List.append_nil, cutS]
        congr 1
        rw [show ((i : Int) + 1).toNat - (i : Int).toNat = 1 by omega, Int.toNat_natCast, List.drop_eq_getElem_cons (by omega), List.take_succ_cons, List.take_zero, List.getD, List.getElem?_eq_getElem (by omega)]; rfl
      · rcases List.mem_append.1 hs with q' | q'
        · have := h2 s q'; omega
        · rw [List.mem_singleton.1 q']; simp only; omega
      · have := List.append_inj_right' e' rfl
        simp only [List.cons.injEq, and_true] at this
        rw [← this]; simp
theorem chk_all (m : Bool) (X : List Int) : (chk m X).flatMap (cutS X) = X := by
  have := (chI_ok m X X.length (Nat.le_refl _)).1
  rwa [List.take_length] at this
theorem chk_in (m : Bool) (X : List Int) : ∀ s ∈ chk m X, 0 ≤ s.1 ∧ s.1 < s.2 ∧ s.2 ≤ X.length := (chI_ok m X X.length (Nat.le_refl _)).2.1
/-- Codes, the last chunk first. -/
def trn (m : Bool) (X : List Int) : List Int := (chk m X).reverse.flatMap (cutS X)
theorem trn_len (m : Bool) (X : List Int) : (trn m X).length = X.length := by
  have : (trn m X).Perm ((chk m X).flatMap (cutS X)) := List.Perm.flatMap_right _ (List.reverse_perm _)
  rw [chk_all] at this
  exact this.length_eq
end Go.Proofs.Ytjabiegaeflhjaa
