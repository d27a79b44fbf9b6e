/-
  How many are of some kinds, and a kind's name (lint.Count, lint.Name), the document's answer; the law LintCounts (P49.2).
-/
import Derived.Test.YtcgaphmndnmfdaaLin2
namespace Go.Proofs.Ytcgaphmndnmfdaa
open Go.Pm
set_option maxRecDepth 100000
set_option linter.unusedSimpArgs false
set_option linter.unusedVariables false
set_option maxHeartbeats 4000000

theorem sp_inj2 (p q : Int × Int) : (sp p = sp q) = (p = q) := by
  obtain ⟨a, b⟩ := p
  obtain ⟨c, d⟩ := q
  simp [sp]
def inK (ks : List Int) (x : Int × Int) : Bool := decide (ks.length = 0) || ks.contains x.2
def cntT (ks : List Int) (l : List (Int × Int)) : Nat := (l.filter (inK ks)).length
theorem cnt_le (ks : List Int) (l : List (Int × Int)) : cntT ks l ≤ l.length := List.length_filter_le _ _
theorem cnt_step (ks : List Int) (l : List (Int × Int)) {i : Nat} (h : i < l.length) : cntT ks (l.take (i + 1)) = cntT ks (l.take i) + (if inK ks (l.getD i default) then 1 else 0) := by
  have e : l.take (i + 1) = l.take i ++ [l.getD i default] := by
    rw [List.take_add_one, List.getD, List.getElem?_eq_getElem h]; rfl
  rw [cntT, cntT, e, List.filter_append, List.length_append]
  cases q : inK ks (l.getD i default)
  · rw [List.filter_cons_of_neg (by rw [q]; decide)]; simp
  · rw [List.filter_cons_of_pos q]; simp
theorem lintCount (f1 f2 : Bool) (l : List (Int × Int)) (hl : l.length ≤ 1000000) (ks : List Int) (hk : ks.length ≤ 1000000) (h : Heap) {K : PV → Heap → Prop} (k : K (.int .i64 (cntT ks l : Nat)) h) :
    CanP Try.prog 5 [.list f1 2 l.length (l.flatMap sp), .list f2 1 ks.length (ks.map (.int .i64))] h K := by
  refine e5 rfl ?_
  try simp only [c5, r5_0, r5_1, r5_2, r5_3, r5_4, r5_5, r5_6, r5_7, r5_8, old_sp, pmZ, Int.cast_ofNat_Int, beq_self_eq_true, Heap.kill_kset, pmC, pmE, pmS, pmV, pmK, pmQ, pmL, pmX, pmF, pmO, pmA, pmR, pmW, pmB, Option.isSome_some, ft, olds_ints, olds_bools, ↓reduceIte, Nat.reduceEqDiff, reduceCtorEq, Nat.reduceAdd, Nat.reduceMul, Nat.reduceLeDiff, Nat.reduceLT, Int.reduceLE, Int.reduceLT, Int.reduceEq, Int.reduceToNat, ne_eq]
  refine pwp_up l.length (fun i σ h' => h' = h ∧ σ 1 = .list false 1 ks.length (ks.map (.int .i64)) ∧ σ 5 = .int .i64 (cntT ks (l.take i) : Nat) ∧ σ 8 = .list false 2 l.length (l.flatMap sp) ∧ σ 9 = .int .i64 l.length ∧ σ 10 = .int .i64 i) ?_ ?_
  · exact ⟨rfl, rfl, by simp [put, cntT], by simp [put], by simp [put], by simp [put]⟩
  rintro i σ h' K' hi ⟨rfl, s1, s5, s8, s9, s10⟩ next
  have cl := cnt_le ks (l.take i)
  have cl2 : (l.take i).length ≤ l.length := by simp; omega
  rcases Nat.lt_or_ge i l.length with hlt | hge
  · have hw : IntKind.i64.wrap ((i : Int) + 1) = (i : Int) + 1 := wrap_in (by omega) (by omega)
    have hw2 : IntKind.i64.wrap (((cntT ks (l.take i) : Nat) : Int) + 1) = ((cntT ks (l.take i) + 1 : Nat) : Int) := by rw [wrap_in (by omega) (by omega)]; omega
    have hat := flat_at sp 2 sp_len l hlt
    have hx2 : i * 2 + 2 ≤ (l.flatMap sp).length := by rw [flat_length sp 2 sp_len]; omega
    have hst := cnt_step ks l hlt
    generalize l.getD i default = x at *
    rw [show sp x = [.int .i64 x.1, .int .i64 x.2] from rfl] at hat
    rw [inK] at hst
    try simp only [s1, s5, s8, s9, s10, hlt, hx2, hat, pmZ, Int.cast_ofNat_Int, beq_self_eq_true, Heap.kill_kset, pmC, pmE, pmS, pmV, pmK, pmQ, pmL, pmX, pmF, pmO, pmA, pmR, pmW, pmB, Option.isSome_some, ft, olds_ints, olds_bools, ↓reduceIte, Nat.reduceEqDiff, reduceCtorEq, Nat.reduceAdd, Nat.reduceMul, Nat.reduceLeDiff, Nat.reduceLT, Int.reduceLE, Int.reduceLT, Int.reduceEq, Int.reduceToNat, ne_eq]
    intro b hb
    try simp only [Heap.kill_none hb, s1, pmZ, Int.cast_ofNat_Int, beq_self_eq_true, Heap.kill_kset, pmC, pmE, pmS, pmV, pmK, pmQ, pmL, pmX, pmF, pmO, pmA, pmR, pmW, pmB, Option.isSome_some, ft, olds_ints, olds_bools, ↓reduceIte, Nat.reduceEqDiff, reduceCtorEq, Nat.reduceAdd, Nat.reduceMul, Nat.reduceLeDiff, Nat.reduceLT, Int.reduceLE, Int.reduceLT, Int.reduceEq, Int.reduceToNat, ne_eq]
    have fin : ∀ (σ' : Sl) (B : Bool), (decide (ks.length = 0) || ks.contains x.2) = B → σ' 1 = σ 1 → σ' 8 = σ 8 → σ' 9 = σ 9 → σ' 10 = .int .i64 ((i : Int) + 1) → σ' 5 = .int .i64 (cntT ks (l.take i) + (if B then 1 else 0) : Nat) → K' σ' h' := fun σ' B hB q1 q8 q9 q10 q5 => by
      refine next hlt _ _ ⟨rfl, q1.trans s1, ?_, q8.trans s8, q9.trans s9, by rw [q10]; rfl⟩
      rw [q5, hst, hB]
    cases h1 : decide (ks.length = 0)
    · have h1' : ¬ (ks.length : Int) = 0 := by have := of_decide_eq_false h1; omega
      try simp only [h1', s1, pmZ, Int.cast_ofNat_Int, beq_self_eq_true, Heap.kill_kset, pmC, pmE, pmS, pmV, pmK, pmQ, pmL, pmX, pmF, pmO, pmA, pmR, pmW, pmB, Option.isSome_some, ft, olds_ints, olds_bools, ↓reduceIte, Nat.reduceEqDiff, reduceCtorEq, Nat.reduceAdd, Nat.reduceMul, Nat.reduceLeDiff, Nat.reduceLT, Int.reduceLE, Int.reduceLT, Int.reduceEq, Int.reduceToNat, ne_eq]
      refine ContainsI _ ks (by omega) _ _ ?_
      cases h2 : ks.contains x.2
      · try simp only [s10, hw, pmZ, Int.cast_ofNat_Int, beq_self_eq_true, Heap.kill_kset, pmC, pmE, pmS, pmV, pmK, pmQ, pmL, pmX, pmF, pmO, pmA, pmR, pmW, pmB, Option.isSome_some, ft, olds_ints, olds_bools, ↓reduceIte, Nat.reduceEqDiff, reduceCtorEq, Nat.reduceAdd, Nat.reduceMul, Nat.reduceLeDiff, Nat.reduceLT, Int.reduceLE, Int.reduceLT, Int.reduceEq, Int.reduceToNat, ne_eq]
        exact fin _ false (by rw [h1, h2]; rfl) (by simp [put]) (by simp [put]) (by simp [put]) (by simp [put]) (by simp [put, s5])
      · try simp only [s5, s10, hw, hw2, pmZ, Int.cast_ofNat_Int, beq_self_eq_true, Heap.kill_kset, pmC, pmE, pmS, pmV, pmK, pmQ, pmL, pmX, pmF, pmO, pmA, pmR, pmW, pmB, Option.isSome_some, ft, olds_ints, olds_bools, ↓reduceIte, Nat.reduceEqDiff, reduceCtorEq, Nat.reduceAdd, Nat.reduceMul, Nat.reduceLeDiff, Nat.reduceLT, Int.reduceLE, Int.reduceLT, Int.reduceEq, Int.reduceToNat, ne_eq]
        exact fin _ true (by rw [h1, h2]; rfl) (by simp [put]) (by simp [put]) (by simp [put]) (by simp [put]) (by simp [put])
    · have h1' : (ks.length : Int) = 0 := by have := of_decide_eq_true h1; omega
      try simp only [h1', s5, s10, hw, hw2, pmZ, Int.cast_ofNat_Int, beq_self_eq_true, Heap.kill_kset, pmC, pmE, pmS, pmV, pmK, pmQ, pmL, pmX, pmF, pmO, pmA, pmR, pmW, pmB, Option.isSome_some, ft, olds_ints, olds_bools, ↓reduceIte, Nat.reduceEqDiff, reduceCtorEq, Nat.reduceAdd, Nat.reduceMul, Nat.reduceLeDiff, Nat.reduceLT, Int.reduceLE, Int.reduceLT, Int.reduceEq, Int.reduceToNat, ne_eq]
      exact fin _ true (by rw [h1]; rfl) (by simp [put]) (by simp [put]) (by simp [put]) (by simp [put]) (by simp [put])
  · have e : i = l.length := by omega
    subst e
    have hnl := Nat.lt_irrefl l.length
    rw [List.take_length] at s5
    try simp only [s5, s9, s10, hnl, pmZ, Int.cast_ofNat_Int, beq_self_eq_true, Heap.kill_kset, pmC, pmE, pmS, pmV, pmK, pmQ, pmL, pmX, pmF, pmO, pmA, pmR, pmW, pmB, Option.isSome_some, ft, olds_ints, olds_bools, ↓reduceIte, Nat.reduceEqDiff, reduceCtorEq, Nat.reduceAdd, Nat.reduceMul, Nat.reduceLeDiff, Nat.reduceLT, Int.reduceLE, Int.reduceLT, Int.reduceEq, Int.reduceToNat, ne_eq]
    exact finK_rf k
theorem has49 (fr : Bool) (L : List Int) (hl : L.length ≤ 1000000) (x : Int) (h : Heap) {K : PV → Heap → Prop} (k : K (.bool (decide (x ∈ L))) h) :
    CanP Try.prog 14 [.list fr 1 L.length (L.map (.int .i64)), .int .i64 x] h K := by
  refine e14 rfl ?_
  try simp only [c14, r14_0, r14_1, r14_2, r14_3, r14_4, r14_5, r14_6, pmZ, Int.cast_ofNat_Int, beq_self_eq_true, Heap.kill_kset, pmC, pmE, pmS, pmV, pmK, pmQ, pmL, pmX, pmF, pmO, pmA, pmR, pmW, pmB, Option.isSome_some, ft, olds_ints, olds_bools, ↓reduceIte, Nat.reduceEqDiff, reduceCtorEq, Nat.reduceAdd, Nat.reduceMul, Nat.reduceLeDiff, Nat.reduceLT, Int.reduceLE, Int.reduceLT, Int.reduceEq, Int.reduceToNat, ne_eq]
  refine pwp_up L.length (fun i σ h' => h' = h ∧ σ 0 = .list false 1 L.length (L.map (.int .i64)) ∧ σ 1 = .int .i64 x ∧ σ 5 = .int .i64 i ∧ decide (x ∈ L) = decide (x ∈ L.drop i)) ?_ ?_
  · exact ⟨rfl, rfl, rfl, rfl, rfl⟩
  rintro i σ h' K' hi ⟨rfl, s0, s1, s5, hp⟩ next
  rcases Nat.lt_or_ge i L.length with hlt | hge
  · have hw : IntKind.i64.wrap ((i : Int) + 1) = (i : Int) + 1 := wrap_in (by omega) (by omega)
    have hx := getm (PV.int .i64) L hlt
    rw [drop_getD L hlt] at hp
    generalize L.getD i default = c at *
    by_cases h1 : c = x
    · have hd : decide (c = x) = true := decide_eq_true h1
      try simp only [s0, s1, s5, hlt, hx, hd, h1, pmZ, Int.cast_ofNat_Int, beq_self_eq_true, Heap.kill_kset, pmC, pmE, pmS, pmV, pmK, pmQ, pmL, pmX, pmF, pmO, pmA, pmR, pmW, pmB, Option.isSome_some, ft, olds_ints, olds_bools, ↓reduceIte, Nat.reduceEqDiff, reduceCtorEq, Nat.reduceAdd, Nat.reduceMul, Nat.reduceLeDiff, Nat.reduceLT, Int.reduceLE, Int.reduceLT, Int.reduceEq, Int.reduceToNat, ne_eq]
      exact finK_rf (by rw [hp] at k; simpa [h1] using k)
    · have hd : decide (c = x) = false := decide_eq_false h1
      try simp only [s0, s1, s5, hlt, hx, hd, h1, hw, pmZ, Int.cast_ofNat_Int, beq_self_eq_true, Heap.kill_kset, pmC, pmE, pmS, pmV, pmK, pmQ, pmL, pmX, pmF, pmO, pmA, pmR, pmW, pmB, Option.isSome_some, ft, olds_ints, olds_bools, ↓reduceIte, Nat.reduceEqDiff, reduceCtorEq, Nat.reduceAdd, Nat.reduceMul, Nat.reduceLeDiff, Nat.reduceLT, Int.reduceLE, Int.reduceLT, Int.reduceEq, Int.reduceToNat, ne_eq]
      refine next hlt _ _ ?_
      exact ⟨rfl, by simp [put, s0], by simp [put, s1], by simp [put], by rw [hp, decide_eq_decide]; simp [Ne.symm h1]⟩
  · have e : i = L.length := by omega
    subst e
    have hnl := Nat.lt_irrefl L.length
    try simp only [s0, s5, hnl, pmZ, Int.cast_ofNat_Int, beq_self_eq_true, Heap.kill_kset, pmC, pmE, pmS, pmV, pmK, pmQ, pmL, pmX, pmF, pmO, pmA, pmR, pmW, pmB, Option.isSome_some, ft, olds_ints, olds_bools, ↓reduceIte, Nat.reduceEqDiff, reduceCtorEq, Nat.reduceAdd, Nat.reduceMul, Nat.reduceLeDiff, Nat.reduceLT, Int.reduceLE, Int.reduceLT, Int.reduceEq, Int.reduceToNat, ne_eq]
    rw [hp, List.drop_length] at k
    exact finK_rf (by simpa using k)
theorem CountNil (f2 : Bool) (ks : List Int) (hk : ks.length ≤ 1000000) (h : Heap) {K : PV → Heap → Prop} (k : K (.int .i64 0) h) :
    CanP Try.prog 6 [.nils, .list f2 1 ks.length (ks.map (.int .i64))] h K := by
  refine e6 rfl ?_
  try simp only [c6, r6_0, r6_1, r6_2, r6_3, r6_4, r6_5, r6_6, r6_7, pmZ, Int.cast_ofNat_Int, beq_self_eq_true, Heap.kill_kset, pmC, pmE, pmS, pmV, pmK, pmQ, pmL, pmX, pmF, pmO, pmA, pmR, pmW, pmB, Option.isSome_some, ft, olds_ints, olds_bools, ↓reduceIte, Nat.reduceEqDiff, reduceCtorEq, Nat.reduceAdd, Nat.reduceMul, Nat.reduceLeDiff, Nat.reduceLT, Int.reduceLE, Int.reduceLT, Int.reduceEq, Int.reduceToNat, ne_eq]
  refine pwp_fall (fun m σ h9 => h9 = h ∧ σ 0 = .nils ∧ σ 5 = .int .i64 0 ∧ σ 6 = .int .i64 0) 0 ⟨rfl, rfl, rfl, rfl⟩ ?_
  rintro m σ h9 K9 ⟨rfl, s0, s5, s6⟩ -
  try simp only [s0, s5, s6, pmZ, Int.cast_ofNat_Int, beq_self_eq_true, Heap.kill_kset, pmC, pmE, pmS, pmV, pmK, pmQ, pmL, pmX, pmF, pmO, pmA, pmR, pmW, pmB, Option.isSome_some, ft, olds_ints, olds_bools, ↓reduceIte, Nat.reduceEqDiff, reduceCtorEq, Nat.reduceAdd, Nat.reduceMul, Nat.reduceLeDiff, Nat.reduceLT, Int.reduceLE, Int.reduceLT, Int.reduceEq, Int.reduceToNat, ne_eq]
  exact finK_rf k
theorem CountR (f1 f2 : Bool) (l : List (Int × Int)) (hl : l.length ≤ 1000000) (ks : List Int) (hk : ks.length ≤ 1000000) (h : Heap) {K : PV → Heap → Prop} (k : K (.int .i64 (cntT ks l : Nat)) h) :
    CanP Try.prog 6 [.list f1 2 l.length (l.flatMap sp), .list f2 1 ks.length (ks.map (.int .i64))] h K := by
  refine e6 rfl ?_
  try simp only [c6, r6_0, r6_1, r6_2, r6_3, r6_4, r6_5, r6_6, r6_7, old_sp, pmZ, Int.cast_ofNat_Int, beq_self_eq_true, Heap.kill_kset, pmC, pmE, pmS, pmV, pmK, pmQ, pmL, pmX, pmF, pmO, pmA, pmR, pmW, pmB, Option.isSome_some, ft, olds_ints, olds_bools, ↓reduceIte, Nat.reduceEqDiff, reduceCtorEq, Nat.reduceAdd, Nat.reduceMul, Nat.reduceLeDiff, Nat.reduceLT, Int.reduceLE, Int.reduceLT, Int.reduceEq, Int.reduceToNat, ne_eq]
  refine pwp_up l.length (fun i σ h' => h' = h ∧ σ 0 = .list false 2 l.length (l.flatMap sp) ∧ σ 1 = .list false 1 ks.length (ks.map (.int .i64)) ∧ σ 5 = .int .i64 (cntT ks (l.take i) : Nat) ∧ σ 6 = .int .i64 i) ?_ ?_
  · exact ⟨rfl, rfl, rfl, by simp [put, cntT], by simp [put]⟩
  rintro i σ h' K' hi ⟨rfl, s0, s1, s5, s6⟩ next
  have cl := cnt_le ks (l.take i)
  have cl2 : (l.take i).length ≤ l.length := by simp; omega
  rcases Nat.lt_or_ge i l.length with hlt | hge
  · have hw : IntKind.i64.wrap ((i : Int) + 1) = (i : Int) + 1 := wrap_in (by omega) (by omega)
    have hw2 : IntKind.i64.wrap (((cntT ks (l.take i) : Nat) : Int) + 1) = ((cntT ks (l.take i) + 1 : Nat) : Int) := by rw [wrap_in (by omega) (by omega)]; omega
    have hz1 := flat_get sp 2 sp_len l hlt (j := 1) (by omega)
    have hst := cnt_step ks l hlt
    generalize l.getD i default = x at *
    have hz1' : (l.flatMap sp)[i * 2 + 1]? = some (.int .i64 x.2) := hz1
    rw [inK] at hst
    have fin : ∀ (σ' : Sl) (B : Bool), (decide (ks.length = 0) || ks.contains x.2) = B → σ' 0 = σ 0 → σ' 1 = σ 1 → σ' 6 = .int .i64 ((i : Int) + 1) → σ' 5 = .int .i64 (cntT ks (l.take i) + (if B then 1 else 0) : Nat) → K' σ' h' := fun σ' B hB q0 q1 q6 q5 => by
      refine next hlt _ _ ⟨rfl, q0.trans s0, q1.trans s1, ?_, by rw [q6]; rfl⟩
      rw [q5, hst, hB]
    cases h1 : decide (ks.length = 0)
    · have h1' : ¬ (ks.length : Int) = 0 := by have := of_decide_eq_false h1; omega
      try simp only [s0, s1, s5, s6, hlt, h1', hz1', pmZ, Int.cast_ofNat_Int, beq_self_eq_true, Heap.kill_kset, pmC, pmE, pmS, pmV, pmK, pmQ, pmL, pmX, pmF, pmO, pmA, pmR, pmW, pmB, Option.isSome_some, ft, olds_ints, olds_bools, ↓reduceIte, Nat.reduceEqDiff, reduceCtorEq, Nat.reduceAdd, Nat.reduceMul, Nat.reduceLeDiff, Nat.reduceLT, Int.reduceLE, Int.reduceLT, Int.reduceEq, Int.reduceToNat, ne_eq]
      refine has49 _ ks (by omega) _ _ ?_
      rw [show decide (x.2 ∈ ks) = ks.contains x.2 by simp]
      cases h2 : ks.contains x.2
      · try simp only [s6, hw, pmZ, Int.cast_ofNat_Int, beq_self_eq_true, Heap.kill_kset, pmC, pmE, pmS, pmV, pmK, pmQ, pmL, pmX, pmF, pmO, pmA, pmR, pmW, pmB, Option.isSome_some, ft, olds_ints, olds_bools, ↓reduceIte, Nat.reduceEqDiff, reduceCtorEq, Nat.reduceAdd, Nat.reduceMul, Nat.reduceLeDiff, Nat.reduceLT, Int.reduceLE, Int.reduceLT, Int.reduceEq, Int.reduceToNat, ne_eq]
        exact fin _ false (by rw [h1, h2]; rfl) (by simp [put]) (by simp [put]) (by simp [put]) (by simp [put, s5])
      · try simp only [s5, s6, hw, hw2, pmZ, Int.cast_ofNat_Int, beq_self_eq_true, Heap.kill_kset, pmC, pmE, pmS, pmV, pmK, pmQ, pmL, pmX, pmF, pmO, pmA, pmR, pmW, pmB, Option.isSome_some, ft, olds_ints, olds_bools, ↓reduceIte, Nat.reduceEqDiff, reduceCtorEq, Nat.reduceAdd, Nat.reduceMul, Nat.reduceLeDiff, Nat.reduceLT, Int.reduceLE, Int.reduceLT, Int.reduceEq, Int.reduceToNat, ne_eq]
        exact fin _ true (by rw [h1, h2]; rfl) (by simp [put]) (by simp [put]) (by simp [put]) (by simp [put])
    · have h1' : (ks.length : Int) = 0 := by have := of_decide_eq_true h1; omega
      try simp only [s0, s1, s5, s6, hlt, h1', hw, hw2, pmZ, Int.cast_ofNat_Int, beq_self_eq_true, Heap.kill_kset, pmC, pmE, pmS, pmV, pmK, pmQ, pmL, pmX, pmF, pmO, pmA, pmR, pmW, pmB, Option.isSome_some, ft, olds_ints, olds_bools, ↓reduceIte, Nat.reduceEqDiff, reduceCtorEq, Nat.reduceAdd, Nat.reduceMul, Nat.reduceLeDiff, Nat.reduceLT, Int.reduceLE, Int.reduceLT, Int.reduceEq, Int.reduceToNat, ne_eq]
      exact fin _ true (by rw [h1]; rfl) (by simp [put]) (by simp [put]) (by simp [put]) (by simp [put])
  · have e : i = l.length := by omega
    subst e
    have hnl := Nat.lt_irrefl l.length
    rw [List.take_length] at s5
    try simp only [s0, s5, s6, hnl, pmZ, Int.cast_ofNat_Int, beq_self_eq_true, Heap.kill_kset, pmC, pmE, pmS, pmV, pmK, pmQ, pmL, pmX, pmF, pmO, pmA, pmR, pmW, pmB, Option.isSome_some, ft, olds_ints, olds_bools, ↓reduceIte, Nat.reduceEqDiff, reduceCtorEq, Nat.reduceAdd, Nat.reduceMul, Nat.reduceLeDiff, Nat.reduceLT, Int.reduceLE, Int.reduceLT, Int.reduceEq, Int.reduceToNat, ne_eq]
    exact finK_rf k
/-! ### Names -/
def nmT (n : Int) : ByteArray :=
  if n = 1 then ⟨#[105, 108, 108]⟩ else if n = 2 then ⟨#[111, 112, 101, 110]⟩ else if n = 3 then ⟨#[108, 111, 111, 115, 101]⟩ else if n = 4 then ⟨#[102, 111, 114, 109, 101, 100]⟩
  else if n = 5 then ⟨#[98, 97, 114, 101]⟩ else if n = 6 then ⟨#[111, 114, 100, 101, 114]⟩ else if n = 7 then ⟨#[100, 105, 103, 105, 116, 115]⟩ else if n = 8 then ⟨#[114, 111, 119]⟩ else ⟨#[]⟩
theorem nm_no {n : Int} (h : ¬ (1 ≤ n ∧ n ≤ 8)) : nmT n = ⟨#[]⟩ := by
  rw [nmT, if_neg (by omega), if_neg (by omega), if_neg (by omega), if_neg (by omega), if_neg (by omega), if_neg (by omega), if_neg (by omega), if_neg (by omega)]
theorem nm_8 : nmT 8 = ⟨#[114, 111, 119]⟩ := by
  rw [nmT, if_neg (by decide), if_neg (by decide), if_neg (by decide), if_neg (by decide), if_neg (by decide), if_neg (by decide), if_neg (by decide), if_pos rfl]
theorem lintName (n : Int) (h : Heap) {K : PV → Heap → Prop} (k : K (.str (nmT n)) h) : CanP Try.prog 7 [.int .i64 n] h K := by
  refine e7 rfl ?_
  by_cases hn : 1 ≤ n ∧ n ≤ 8
  · rcases (show n = 1 ∨ n = 2 ∨ n = 3 ∨ n = 4 ∨ n = 5 ∨ n = 6 ∨ n = 7 ∨ n = 8 by omega) with rfl | rfl | rfl | rfl | rfl | rfl | rfl | rfl
    · rw [nmT, if_pos rfl] at k
      try simp only [c7, r7_0, r7_1, r7_2, r7_3, r7_4, r7_5, r7_6, r7_7, r7_8, r7_9, r7_10, r7_11, r7_12, r7_13, r7_14, r7_15, r7_16, r7_17, r7_18, pmZ, Int.cast_ofNat_Int, beq_self_eq_true, Heap.kill_kset, pmC, pmE, pmS, pmV, pmK, pmQ, pmL, pmX, pmF, pmO, pmA, pmR, pmW, pmB, Option.isSome_some, ft, olds_ints, olds_bools, ↓reduceIte, Nat.reduceEqDiff, reduceCtorEq, Nat.reduceAdd, Nat.reduceMul, Nat.reduceLeDiff, Nat.reduceLT, Int.reduceLE, Int.reduceLT, Int.reduceEq, Int.reduceToNat, ne_eq]
      exact finK_rf k
    · rw [nmT, if_neg (by decide), if_pos rfl] at k
      try simp only [c7, r7_0, r7_1, r7_2, r7_3, r7_4, r7_5, r7_6, r7_7, r7_8, r7_9, r7_10, r7_11, r7_12, r7_13, r7_14, r7_15, r7_16, r7_17, r7_18, pmZ, Int.cast_ofNat_Int, beq_self_eq_true, Heap.kill_kset, pmC, pmE, pmS, pmV, pmK, pmQ, pmL, pmX, pmF, pmO, pmA, pmR, pmW, pmB, Option.isSome_some, ft, olds_ints, olds_bools, ↓reduceIte, Nat.reduceEqDiff, reduceCtorEq, Nat.reduceAdd, Nat.reduceMul, Nat.reduceLeDiff, Nat.reduceLT, Int.reduceLE, Int.reduceLT, Int.reduceEq, Int.reduceToNat, ne_eq]
      exact finK_rf k
    · rw [nmT, if_neg (by decide), if_neg (by decide), if_pos rfl] at k
      try simp only [c7, r7_0, r7_1, r7_2, r7_3, r7_4, r7_5, r7_6, r7_7, r7_8, r7_9, r7_10, r7_11, r7_12, r7_13, r7_14, r7_15, r7_16, r7_17, r7_18, pmZ, Int.cast_ofNat_Int, beq_self_eq_true, Heap.kill_kset, pmC, pmE, pmS, pmV, pmK, pmQ, pmL, pmX, pmF, pmO, pmA, pmR, pmW, pmB, Option.isSome_some, ft, olds_ints, olds_bools, ↓reduceIte, Nat.reduceEqDiff, reduceCtorEq, Nat.reduceAdd, Nat.reduceMul, Nat.reduceLeDiff, Nat.reduceLT, Int.reduceLE, Int.reduceLT, Int.reduceEq, Int.reduceToNat, ne_eq]
      exact finK_rf k
    · rw [nmT, if_neg (by decide), if_neg (by decide), if_neg (by decide), if_pos rfl] at k
      try simp only [c7, r7_0, r7_1, r7_2, r7_3, r7_4, r7_5, r7_6, r7_7, r7_8, r7_9, r7_10, r7_11, r7_12, r7_13, r7_14, r7_15, r7_16, r7_17, r7_18, pmZ, Int.cast_ofNat_Int, beq_self_eq_true, Heap.kill_kset, pmC, pmE, pmS, pmV, pmK, pmQ, pmL, pmX, pmF, pmO, pmA, pmR, pmW, pmB, Option.isSome_some, ft, olds_ints, olds_bools, ↓reduceIte, Nat.reduceEqDiff, reduceCtorEq, Nat.reduceAdd, Nat.reduceMul, Nat.reduceLeDiff, Nat.reduceLT, Int.reduceLE, Int.reduceLT, Int.reduceEq, Int.reduceToNat, ne_eq]
      exact finK_rf k
    · rw [nmT, if_neg (by decide), if_neg (by decide), if_neg (by decide), if_neg (by decide), if_pos rfl] at k
      try simp only [c7, r7_0, r7_1, r7_2, r7_3, r7_4, r7_5, r7_6, r7_7, r7_8, r7_9, r7_10, r7_11, r7_12, r7_13, r7_14, r7_15, r7_16, r7_17, r7_18, pmZ, Int.cast_ofNat_Int, beq_self_eq_true, Heap.kill_kset, pmC, pmE, pmS, pmV, pmK, pmQ, pmL, pmX, pmF, pmO, pmA, pmR, pmW, pmB, Option.isSome_some, ft, olds_ints, olds_bools, ↓reduceIte, Nat.reduceEqDiff, reduceCtorEq, Nat.reduceAdd, Nat.reduceMul, Nat.reduceLeDiff, Nat.reduceLT, Int.reduceLE, Int.reduceLT, Int.reduceEq, Int.reduceToNat, ne_eq]
      exact finK_rf k
    · rw [nmT, if_neg (by decide), if_neg (by decide), if_neg (by decide), if_neg (by decide), if_neg (by decide), if_pos rfl] at k
      try simp only [c7, r7_0, r7_1, r7_2, r7_3, r7_4, r7_5, r7_6, r7_7, r7_8, r7_9, r7_10, r7_11, r7_12, r7_13, r7_14, r7_15, r7_16, r7_17, r7_18, pmZ, Int.cast_ofNat_Int, beq_self_eq_true, Heap.kill_kset, pmC, pmE, pmS, pmV, pmK, pmQ, pmL, pmX, pmF, pmO, pmA, pmR, pmW, pmB, Option.isSome_some, ft, olds_ints, olds_bools, ↓reduceIte, Nat.reduceEqDiff, reduceCtorEq, Nat.reduceAdd, Nat.reduceMul, Nat.reduceLeDiff, Nat.reduceLT, Int.reduceLE, Int.reduceLT, Int.reduceEq, Int.reduceToNat, ne_eq]
      exact finK_rf k
    · rw [nmT, if_neg (by decide), if_neg (by decide), if_neg (by decide), if_neg (by decide), if_neg (by decide), if_neg (by decide), if_pos rfl] at k
      try simp only [c7, r7_0, r7_1, r7_2, r7_3, r7_4, r7_5, r7_6, r7_7, r7_8, r7_9, r7_10, r7_11, r7_12, r7_13, r7_14, r7_15, r7_16, r7_17, r7_18, pmZ, Int.cast_ofNat_Int, beq_self_eq_true, Heap.kill_kset, pmC, pmE, pmS, pmV, pmK, pmQ, pmL, pmX, pmF, pmO, pmA, pmR, pmW, pmB, Option.isSome_some, ft, olds_ints, olds_bools, ↓reduceIte, Nat.reduceEqDiff, reduceCtorEq, Nat.reduceAdd, Nat.reduceMul, Nat.reduceLeDiff, Nat.reduceLT, Int.reduceLE, Int.reduceLT, Int.reduceEq, Int.reduceToNat, ne_eq]
      exact finK_rf k
    · rw [nmT, if_neg (by decide), if_neg (by decide), if_neg (by decide), if_neg (by decide), if_neg (by decide), if_neg (by decide), if_neg (by decide), if_pos rfl] at k
      try simp only [c7, r7_0, r7_1, r7_2, r7_3, r7_4, r7_5, r7_6, r7_7, r7_8, r7_9, r7_10, r7_11, r7_12, r7_13, r7_14, r7_15, r7_16, r7_17, r7_18, pmZ, Int.cast_ofNat_Int, beq_self_eq_true, Heap.kill_kset, pmC, pmE, pmS, pmV, pmK, pmQ, pmL, pmX, pmF, pmO, pmA, pmR, pmW, pmB, Option.isSome_some, ft, olds_ints, olds_bools, ↓reduceIte, Nat.reduceEqDiff, reduceCtorEq, Nat.reduceAdd, Nat.reduceMul, Nat.reduceLeDiff, Nat.reduceLT, Int.reduceLE, Int.reduceLT, Int.reduceEq, Int.reduceToNat, ne_eq]
      exact finK_rf k
  · rw [nm_no hn] at k
    have n1 : ¬ n = 1 := by omega
    have n2 : ¬ n = 2 := by omega
    have n3 : ¬ n = 3 := by omega
    have n4 : ¬ n = 4 := by omega
    have n5 : ¬ n = 5 := by omega
    have n6 : ¬ n = 6 := by omega
    have n7 : ¬ n = 7 := by omega
    have n8 : ¬ n = 8 := by omega
    try simp only [c7, r7_0, r7_1, r7_2, r7_3, r7_4, r7_5, r7_6, r7_7, r7_8, r7_9, r7_10, r7_11, r7_12, r7_13, r7_14, r7_15, r7_16, r7_17, r7_18, n1, n2, n3, n4, n5, n6, n7, n8, pmZ, Int.cast_ofNat_Int, beq_self_eq_true, Heap.kill_kset, pmC, pmE, pmS, pmV, pmK, pmQ, pmL, pmX, pmF, pmO, pmA, pmR, pmW, pmB, Option.isSome_some, ft, olds_ints, olds_bools, ↓reduceIte, Nat.reduceEqDiff, reduceCtorEq, Nat.reduceAdd, Nat.reduceMul, Nat.reduceLeDiff, Nat.reduceLT, Int.reduceLE, Int.reduceLT, Int.reduceEq, Int.reduceToNat, ne_eq]
    exact finK_rf k
theorem NameR49 (n : Int) (h : Heap) {K : PV → Heap → Prop} (k : K (.str (nmT n)) h) : CanP Try.prog 8 [.int .i64 n] h K := by
  refine e8 rfl ?_
  by_cases h1 : n < 0
  · rw [nm_no (by omega)] at k
    try simp only [c8, r8_0, r8_1, r8_2, r8_3, r8_4, h1, pmZ, Int.cast_ofNat_Int, beq_self_eq_true, Heap.kill_kset, pmC, pmE, pmS, pmV, pmK, pmQ, pmL, pmX, pmF, pmO, pmA, pmR, pmW, pmB, Option.isSome_some, ft, olds_ints, olds_bools, ↓reduceIte, Nat.reduceEqDiff, reduceCtorEq, Nat.reduceAdd, Nat.reduceMul, Nat.reduceLeDiff, Nat.reduceLT, Int.reduceLE, Int.reduceLT, Int.reduceEq, Int.reduceToNat, ne_eq]
    exact finK_rf k
  · by_cases h2 : (9 : Int) ≤ n
    · rw [nm_no (by omega)] at k
      try simp only [c8, r8_0, r8_1, r8_2, r8_3, r8_4, h1, h2, pmZ, Int.cast_ofNat_Int, beq_self_eq_true, Heap.kill_kset, pmC, pmE, pmS, pmV, pmK, pmQ, pmL, pmX, pmF, pmO, pmA, pmR, pmW, pmB, Option.isSome_some, ft, olds_ints, olds_bools, ↓reduceIte, Nat.reduceEqDiff, reduceCtorEq, Nat.reduceAdd, Nat.reduceMul, Nat.reduceLeDiff, Nat.reduceLT, Int.reduceLE, Int.reduceLT, Int.reduceEq, Int.reduceToNat, ne_eq]
      exact finK_rf k
    · obtain ⟨i, rfl⟩ : ∃ i : Nat, n = i := ⟨n.toNat, by omega⟩
      have hi : i < 9 := by omega
      have hx : ([PV.str ⟨#[]⟩, PV.str ⟨#[105, 108, 108]⟩, PV.str ⟨#[111, 112, 101, 110]⟩, PV.str ⟨#[108, 111, 111, 115, 101]⟩, PV.str ⟨#[102, 111, 114, 109, 101, 100]⟩, PV.str ⟨#[98, 97, 114, 101]⟩, PV.str ⟨#[111, 114, 100, 101, 114]⟩, PV.str ⟨#[100, 105, 103, 105, 116, 115]⟩, PV.str ⟨#[114, 111, 119]⟩] : List PV)[i]? = some (.str (nmT i)) := by
        rcases (show i = 0 ∨ i = 1 ∨ i = 2 ∨ i = 3 ∨ i = 4 ∨ i = 5 ∨ i = 6 ∨ i = 7 ∨ i = 8 by omega) with rfl | rfl | rfl | rfl | rfl | rfl | rfl | rfl | rfl <;> rfl
      try simp only [c8, r8_0, r8_1, r8_2, r8_3, r8_4, h1, h2, hi, hx, pmZ, Int.cast_ofNat_Int, beq_self_eq_true, Heap.kill_kset, pmC, pmE, pmS, pmV, pmK, pmQ, pmL, pmX, pmF, pmO, pmA, pmR, pmW, pmB, Option.isSome_some, ft, olds_ints, olds_bools, ↓reduceIte, Nat.reduceEqDiff, reduceCtorEq, Nat.reduceAdd, Nat.reduceMul, Nat.reduceLeDiff, Nat.reduceLT, Int.reduceLE, Int.reduceLT, Int.reduceEq, Int.reduceToNat, ne_eq]
      exact ⟨by omega, finK_rf k⟩
theorem EqualFind (fr fr2 : Bool) (a b : List (Int × Int)) (hl : a.length ≤ 1000000000) (h : Heap) {K : PV → Heap → Prop} (k : K (.bool (decide (a = b))) h) :
    CanP Try.prog 12 [.list fr 2 a.length (a.flatMap sp), .list fr2 2 b.length (b.flatMap sp)] h K := by
  refine e12 rfl ?_
  try simp only [c12, r12_0, r12_1, r12_2, r12_3, r12_4, r12_5, r12_6, r12_7, r12_8, r12_9, old_sp, pmZ, Int.cast_ofNat_Int, beq_self_eq_true, Heap.kill_kset, pmC, pmE, pmS, pmV, pmK, pmQ, pmL, pmX, pmF, pmO, pmA, pmR, pmW, pmB, Option.isSome_some, ft, olds_ints, olds_bools, ↓reduceIte, Nat.reduceEqDiff, reduceCtorEq, Nat.reduceAdd, Nat.reduceMul, Nat.reduceLeDiff, Nat.reduceLT, Int.reduceLE, Int.reduceLT, Int.reduceEq, Int.reduceToNat, ne_eq]
  by_cases h1 : a.length = b.length
  · try simp only [h1, pmZ, Int.cast_ofNat_Int, beq_self_eq_true, Heap.kill_kset, pmC, pmE, pmS, pmV, pmK, pmQ, pmL, pmX, pmF, pmO, pmA, pmR, pmW, pmB, Option.isSome_some, ft, olds_ints, olds_bools, ↓reduceIte, Nat.reduceEqDiff, reduceCtorEq, Nat.reduceAdd, Nat.reduceMul, Nat.reduceLeDiff, Nat.reduceLT, Int.reduceLE, Int.reduceLT, Int.reduceEq, Int.reduceToNat, ne_eq]
    refine pwp_up a.length (fun i σ h' => h' = h ∧ σ 0 = .list false 2 b.length (a.flatMap sp) ∧ σ 1 = .list false 2 b.length (b.flatMap sp) ∧ σ 12 = .int .i64 b.length ∧ σ 13 = .int .i64 i ∧ decide (a = b) = decide (a.drop i = b.drop i)) ?_ ?_
    · exact ⟨rfl, rfl, rfl, rfl, rfl, rfl⟩
    · rintro i σ h' K' hi' ⟨rfl, s0, s1, s12, s13, hp⟩ next
      try simp only [s0, s1, s12, s13, cdK_dec, pmZ, Int.cast_ofNat_Int, beq_self_eq_true, Heap.kill_kset, pmC, pmE, pmS, pmV, pmK, pmQ, pmL, pmX, pmF, pmO, pmA, pmR, pmW, pmB, Option.isSome_some, ft, olds_ints, olds_bools, ↓reduceIte, Nat.reduceEqDiff, reduceCtorEq, Nat.reduceAdd, Nat.reduceMul, Nat.reduceLeDiff, Nat.reduceLT, Int.reduceLE, Int.reduceLT, Int.reduceEq, Int.reduceToNat, ne_eq]
      refine ⟨fun hlt => ?_, fun hge => ?_⟩
      · have hx := flat_at sp 2 sp_len a (h1 ▸ hlt)
        have hy := flat_at sp 2 sp_len b hlt
        have hx2 : i * 2 + 2 ≤ (a.flatMap sp).length := by rw [flat_length sp 2 sp_len]; omega
        have hy2 : i * 2 + 2 ≤ (b.flatMap sp).length := by rw [flat_length sp 2 sp_len]; omega
        rw [drop_getD a (h1 ▸ hlt), drop_getD b hlt] at hp
        generalize a.getD i default = p at *
        generalize b.getD i default = q at *
        try simp only [hx, hy, hx2, hy2, hlt, sp, s0, s1, s12, s13, sp_inj2, Option.some.injEq, false_and, pmZ, Int.cast_ofNat_Int, beq_self_eq_true, Heap.kill_kset, pmC, pmE, pmS, pmV, pmK, pmQ, pmL, pmX, pmF, pmO, pmA, pmR, pmW, pmB, Option.isSome_some, ft, olds_ints, olds_bools, ↓reduceIte, Nat.reduceEqDiff, reduceCtorEq, Nat.reduceAdd, Nat.reduceMul, Nat.reduceLeDiff, Nat.reduceLT, Int.reduceLE, Int.reduceLT, Int.reduceEq, Int.reduceToNat, ne_eq]
        by_cases h2 : p = q
        · try simp only [h2, s0, s1, s12, s13, pmZ, Int.cast_ofNat_Int, beq_self_eq_true, Heap.kill_kset, pmC, pmE, pmS, pmV, pmK, pmQ, pmL, pmX, pmF, pmO, pmA, pmR, pmW, pmB, Option.isSome_some, ft, olds_ints, olds_bools, ↓reduceIte, Nat.reduceEqDiff, reduceCtorEq, Nat.reduceAdd, Nat.reduceMul, Nat.reduceLeDiff, Nat.reduceLT, Int.reduceLE, Int.reduceLT, Int.reduceEq, Int.reduceToNat, ne_eq]
          rw [wrap_in (by omega) (by omega)]
          refine next (h1 ▸ hlt) _ _ ⟨rfl, by simp [put, s0], by simp [put, s1], by simp [put, s12], by simp [put], by simpa [h2] using hp⟩
        · have hd : (decide (p.1 = q.1) && decide (p.2 = q.2)) = false := by
            rw [Bool.and_eq_false_iff, decide_eq_false_iff_not, decide_eq_false_iff_not]
            by_cases a1 : p.1 = q.1
            · exact .inr fun a2 => h2 (Prod.ext a1 a2)
            · exact .inl a1
          try simp only [hd, s0, s1, s12, s13, pmZ, Int.cast_ofNat_Int, beq_self_eq_true, Heap.kill_kset, pmC, pmE, pmS, pmV, pmK, pmQ, pmL, pmX, pmF, pmO, pmA, pmR, pmW, pmB, Option.isSome_some, ft, olds_ints, olds_bools, ↓reduceIte, Nat.reduceEqDiff, reduceCtorEq, Nat.reduceAdd, Nat.reduceMul, Nat.reduceLeDiff, Nat.reduceLT, Int.reduceLE, Int.reduceLT, Int.reduceEq, Int.reduceToNat, ne_eq]
          exact finK_le (Heap.le_refl _) (by simpa [hp, h2] using k)
      · try simp only [s0, pmZ, Int.cast_ofNat_Int, beq_self_eq_true, Heap.kill_kset, pmC, pmE, pmS, pmV, pmK, pmQ, pmL, pmX, pmF, pmO, pmA, pmR, pmW, pmB, Option.isSome_some, ft, olds_ints, olds_bools, ↓reduceIte, Nat.reduceEqDiff, reduceCtorEq, Nat.reduceAdd, Nat.reduceMul, Nat.reduceLeDiff, Nat.reduceLT, Int.reduceLE, Int.reduceLT, Int.reduceEq, Int.reduceToNat, ne_eq]
        refine finK_le (Heap.le_refl _) (by simpa [hp, List.drop_eq_nil_of_le (Nat.le_of_not_lt hge), List.drop_eq_nil_of_le (h1 ▸ Nat.le_of_not_lt hge)] using k)
  · try simp only [h1, pmZ, Int.cast_ofNat_Int, beq_self_eq_true, Heap.kill_kset, pmC, pmE, pmS, pmV, pmK, pmQ, pmL, pmX, pmF, pmO, pmA, pmR, pmW, pmB, Option.isSome_some, ft, olds_ints, olds_bools, ↓reduceIte, Nat.reduceEqDiff, reduceCtorEq, Nat.reduceAdd, Nat.reduceMul, Nat.reduceLeDiff, Nat.reduceLT, Int.reduceLE, Int.reduceLT, Int.reduceEq, Int.reduceToNat, ne_eq]
    exact finK_le (Heap.le_refl _) (by simpa [show a ≠ b from fun e => h1 (by rw [e])] using k)
theorem aw49 : findsT cccT [1616, 1614] = [(0, 5), (1, 6)] := by
  have e0 : splitT [1616, 1614] = [(0, 2)] := by kernel_rfl
  have e1 : (wkT (cls (cutS [1616, 1614] (0, 2)))).st ++ (wkT (cls (cutS [1616, 1614] (0, 2)))).lo = [] := by kernel_rfl
  have ho : openT (cls (cutS [1616, 1614] (0, 2))) = [] := by rw [openT, e1]; simp
  have m0 : (2 : Int).toNat - (0 : Int).toNat = 2 := by kernel_rfl
  rw [findsT, e0]
  simp only [List.flatMap_cons, List.flatMap_nil, m0, fpt, fpl, kls, kindT, ho]
  show _ = _
  kernel_rfl
theorem awake (h : Heap) {K : PV → Heap → Prop} (k : K (.bool true) h) : CanP Try.prog 4 [] h K := by
  refine e4 rfl ?_
  try simp only [c4, r4_0, r4_1, r4_2, pmZ, Int.cast_ofNat_Int, beq_self_eq_true, Heap.kill_kset, pmC, pmE, pmS, pmV, pmK, pmQ, pmL, pmX, pmF, pmO, pmA, pmR, pmW, pmB, Option.isSome_some, ft, olds_ints, olds_bools, ↓reduceIte, Nat.reduceEqDiff, reduceCtorEq, Nat.reduceAdd, Nat.reduceMul, Nat.reduceLeDiff, Nat.reduceLT, Int.reduceLE, Int.reduceLT, Int.reduceEq, Int.reduceToNat, ne_eq]
  refine New _ fun p hp => ?_
  try simp only [pmZ, Int.cast_ofNat_Int, beq_self_eq_true, Heap.kill_kset, pmC, pmE, pmS, pmV, pmK, pmQ, pmL, pmX, pmF, pmO, pmA, pmR, pmW, pmB, Option.isSome_some, ft, olds_ints, olds_bools, ↓reduceIte, Nat.reduceEqDiff, reduceCtorEq, Nat.reduceAdd, Nat.reduceMul, Nat.reduceLeDiff, Nat.reduceLT, Int.reduceLE, Int.reduceLT, Int.reduceEq, Int.reduceToNat, ne_eq]
  refine cccNew _ fun c hc => ?_
  try simp only [pmZ, Int.cast_ofNat_Int, beq_self_eq_true, Heap.kill_kset, pmC, pmE, pmS, pmV, pmK, pmQ, pmL, pmX, pmF, pmO, pmA, pmR, pmW, pmB, Option.isSome_some, ft, olds_ints, olds_bools, ↓reduceIte, Nat.reduceEqDiff, reduceCtorEq, Nat.reduceAdd, Nat.reduceMul, Nat.reduceLeDiff, Nat.reduceLT, Int.reduceLE, Int.reduceLT, Int.reduceEq, Int.reduceToNat, ne_eq]
  refine lintCheck p hp c cccT hc _ [1616, 1614] (by decide) _ ?_
  rw [aw49]
  try simp only [pmZ, Int.cast_ofNat_Int, beq_self_eq_true, Heap.kill_kset, pmC, pmE, pmS, pmV, pmK, pmQ, pmL, pmX, pmF, pmO, pmA, pmR, pmW, pmB, Option.isSome_some, ft, olds_ints, olds_bools, ↓reduceIte, Nat.reduceEqDiff, reduceCtorEq, Nat.reduceAdd, Nat.reduceMul, Nat.reduceLeDiff, Nat.reduceLT, Int.reduceLE, Int.reduceLT, Int.reduceEq, Int.reduceToNat, ne_eq]
  refine EqualFind _ _ [(0, 5), (1, 6)] [(0, 5), (1, 6)] (by decide) _ ?_
  try simp only [pmZ, Int.cast_ofNat_Int, beq_self_eq_true, Heap.kill_kset, pmC, pmE, pmS, pmV, pmK, pmQ, pmL, pmX, pmF, pmO, pmA, pmR, pmW, pmB, Option.isSome_some, ft, olds_ints, olds_bools, ↓reduceIte, Nat.reduceEqDiff, reduceCtorEq, Nat.reduceAdd, Nat.reduceMul, Nat.reduceLeDiff, Nat.reduceLT, Int.reduceLE, Int.reduceLT, Int.reduceEq, Int.reduceToNat, ne_eq]
  refine lintName _ _ ?_
  rw [nm_8]
  try simp only [pmZ, Int.cast_ofNat_Int, beq_self_eq_true, Heap.kill_kset, pmC, pmE, pmS, pmV, pmK, pmQ, pmL, pmX, pmF, pmO, pmA, pmR, pmW, pmB, Option.isSome_some, ft, olds_ints, olds_bools, ↓reduceIte, Nat.reduceEqDiff, reduceCtorEq, Nat.reduceAdd, Nat.reduceMul, Nat.reduceLeDiff, Nat.reduceLT, Int.reduceLE, Int.reduceLT, Int.reduceEq, Int.reduceToNat, ne_eq]
  exact finK_rf k
theorem fits_int49 (r : List PV) (h : Fits [some .i64] r) : ∃ x : Int, r = [.int .i64 x] ∧ (x ≤ 9223372036854775807 ∧ -9223372036854775808 ≤ x) := by
  obtain ⟨a, r, rfl, ha, rfl⟩ := h
  have := wf64 ha
  exact ⟨a, rfl, by omega⟩
theorem flat_ints49 (l : List Int) : (List.map (fun x => [PV.int IntKind.i64 x]) l).flatten = l.map (.int .i64) := by
  induction l with
  | nil => rfl
  | cons x l ih => simp [ih]
theorem law_LintCounts (l : List (Int × Int)) (ks : List Int) (kd : Int) (hl : l.length ≤ 9223372036854775806) (hk : ks.length ≤ 9223372036854775806) (h : Heap) {K : PV → Heap → Prop} (k : K (.bool true) h) :
    CanP Try.prog 3 [.list false 2 l.length (l.flatMap sp), .list false 1 ks.length (ks.map (.int .i64)), .int .i64 kd] h K := by
  refine e3 rfl ?_
  obtain ⟨s, hs1, hs2⟩ : ∃ s : ByteArray, (∀ (h : Heap) (K : PV → Heap → Prop), K (.str s) h → CanP Try.prog 7 [.int .i64 kd] h K) ∧ (∀ (h : Heap) (K : PV → Heap → Prop), K (.str s) h → CanP Try.prog 8 [.int .i64 kd] h K) := ⟨nmT kd, fun h K k => lintName kd h k, fun h K k => NameR49 kd h k⟩
  try simp only [c3, r3_0, r3_1, r3_2, r3_3, r3_4, r3_5, r3_6, r3_7, r3_8, r3_9, old_sp, pmZ, Int.cast_ofNat_Int, beq_self_eq_true, Heap.kill_kset, pmC, pmE, pmS, pmV, pmK, pmQ, pmL, pmX, pmF, pmO, pmA, pmR, pmW, pmB, Option.isSome_some, ft, olds_ints, olds_bools, ↓reduceIte, Nat.reduceEqDiff, reduceCtorEq, Nat.reduceAdd, Nat.reduceMul, Nat.reduceLeDiff, Nat.reduceLT, Int.reduceLE, Int.reduceLT, Int.reduceEq, Int.reduceToNat, ne_eq]
  by_cases h1 : 100 < l.length
  · have h1' : (100 : Int) < (l.length : Int) := by omega
    try simp only [h1', pmZ, Int.cast_ofNat_Int, beq_self_eq_true, Heap.kill_kset, pmC, pmE, pmS, pmV, pmK, pmQ, pmL, pmX, pmF, pmO, pmA, pmR, pmW, pmB, Option.isSome_some, ft, olds_ints, olds_bools, ↓reduceIte, Nat.reduceEqDiff, reduceCtorEq, Nat.reduceAdd, Nat.reduceMul, Nat.reduceLeDiff, Nat.reduceLT, Int.reduceLE, Int.reduceLT, Int.reduceEq, Int.reduceToNat, ne_eq]
    refine awake _ ?_
    try simp only [pmZ, Int.cast_ofNat_Int, beq_self_eq_true, Heap.kill_kset, pmC, pmE, pmS, pmV, pmK, pmQ, pmL, pmX, pmF, pmO, pmA, pmR, pmW, pmB, Option.isSome_some, ft, olds_ints, olds_bools, ↓reduceIte, Nat.reduceEqDiff, reduceCtorEq, Nat.reduceAdd, Nat.reduceMul, Nat.reduceLeDiff, Nat.reduceLT, Int.reduceLE, Int.reduceLT, Int.reduceEq, Int.reduceToNat, ne_eq]
    exact finK_rf k
  have h1' : ¬ (100 : Int) < (l.length : Int) := by omega
  by_cases h2 : 20 < ks.length
  · have h2' : (20 : Int) < (ks.length : Int) := by omega
    try simp only [h1', h2', pmZ, Int.cast_ofNat_Int, beq_self_eq_true, Heap.kill_kset, pmC, pmE, pmS, pmV, pmK, pmQ, pmL, pmX, pmF, pmO, pmA, pmR, pmW, pmB, Option.isSome_some, ft, olds_ints, olds_bools, ↓reduceIte, Nat.reduceEqDiff, reduceCtorEq, Nat.reduceAdd, Nat.reduceMul, Nat.reduceLeDiff, Nat.reduceLT, Int.reduceLE, Int.reduceLT, Int.reduceEq, Int.reduceToNat, ne_eq]
    refine awake _ ?_
    try simp only [pmZ, Int.cast_ofNat_Int, beq_self_eq_true, Heap.kill_kset, pmC, pmE, pmS, pmV, pmK, pmQ, pmL, pmX, pmF, pmO, pmA, pmR, pmW, pmB, Option.isSome_some, ft, olds_ints, olds_bools, ↓reduceIte, Nat.reduceEqDiff, reduceCtorEq, Nat.reduceAdd, Nat.reduceMul, Nat.reduceLeDiff, Nat.reduceLT, Int.reduceLE, Int.reduceLT, Int.reduceEq, Int.reduceToNat, ne_eq]
    exact finK_rf k
  have h2' : ¬ (20 : Int) < (ks.length : Int) := by omega
  try simp only [h1', h2', pmZ, Int.cast_ofNat_Int, beq_self_eq_true, Heap.kill_kset, pmC, pmE, pmS, pmV, pmK, pmQ, pmL, pmX, pmF, pmO, pmA, pmR, pmW, pmB, Option.isSome_some, ft, olds_ints, olds_bools, ↓reduceIte, Nat.reduceEqDiff, reduceCtorEq, Nat.reduceAdd, Nat.reduceMul, Nat.reduceLeDiff, Nat.reduceLT, Int.reduceLE, Int.reduceLT, Int.reduceEq, Int.reduceToNat, ne_eq]
  refine pwp_up l.length (fun i σ h' => Acc h h' (σ 7) 2 (l.take i).length ((l.take i).flatMap sp) ∧ h.le h' ∧ σ 0 = .list false 2 l.length (l.flatMap sp) ∧ σ 1 = .list false 1 ks.length (ks.map (.int .i64)) ∧ σ 2 = .int .i64 kd ∧ σ 19 = .list false 2 l.length (l.flatMap sp) ∧ σ 20 = .int .i64 l.length ∧ σ 21 = .int .i64 i) ?_ ?_
  · exact ⟨Acc.nil _ _ _, Heap.le_refl _, rfl, rfl, rfl, by simp [put], by simp [put], by simp [put]⟩
  rintro i σ h' K' hi ⟨a, lh, s0, s1, s2, s19, s20, s21⟩ next
  rcases Nat.lt_or_ge i l.length with hlt | hge
  · have hw : IntKind.i64.wrap ((i : Int) + 1) = (i : Int) + 1 := wrap_in (by omega) (by omega)
    have hat := flat_at sp 2 sp_len l hlt
    have hx2 : i * 2 + 2 ≤ (l.flatMap sp).length := by rw [flat_length sp 2 sp_len]; omega
    have ht : l.take (i + 1) = l.take i ++ [l.getD i default] := by
      rw [List.take_add_one, List.getD, List.getElem?_eq_getElem hlt]; rfl
    generalize l.getD i default = x at *
    rw [show sp x = [.int .i64 x.1, .int .i64 x.2] from rfl] at hat
    try simp only [s0, s1, s2, s19, s20, s21, hlt, hx2, hat, pmZ, Int.cast_ofNat_Int, beq_self_eq_true, Heap.kill_kset, pmC, pmE, pmS, pmV, pmK, pmQ, pmL, pmX, pmF, pmO, pmA, pmR, pmW, pmB, Option.isSome_some, ft, olds_ints, olds_bools, ↓reduceIte, Nat.reduceEqDiff, reduceCtorEq, Nat.reduceAdd, Nat.reduceMul, Nat.reduceLeDiff, Nat.reduceLT, Int.reduceLE, Int.reduceLT, Int.reduceEq, Int.reduceToNat, ne_eq]
    intro b hb
    rw [Heap.kill_none hb]
    have htl : (l.take i).length ≤ 100 := by simp; omega
    try simp only [pmZ, Int.cast_ofNat_Int, beq_self_eq_true, Heap.kill_kset, pmC, pmE, pmS, pmV, pmK, pmQ, pmL, pmX, pmF, pmO, pmA, pmR, pmW, pmB, Option.isSome_some, ft, olds_ints, olds_bools, ↓reduceIte, Nat.reduceEqDiff, reduceCtorEq, Nat.reduceAdd, Nat.reduceMul, Nat.reduceLeDiff, Nat.reduceLT, Int.reduceLE, Int.reduceLT, Int.reduceEq, Int.reduceToNat, ne_eq]
    refine a.app lh (by decide) rfl (by omega) (by simp only [maxLen]; omega) fun v5 h5 a5 l5 sd5 => ?_
    have a5' := acc_sp a5
    try simp only [s21, hw, pmZ, Int.cast_ofNat_Int, beq_self_eq_true, Heap.kill_kset, pmC, pmE, pmS, pmV, pmK, pmQ, pmL, pmX, pmF, pmO, pmA, pmR, pmW, pmB, Option.isSome_some, ft, olds_ints, olds_bools, ↓reduceIte, Nat.reduceEqDiff, reduceCtorEq, Nat.reduceAdd, Nat.reduceMul, Nat.reduceLeDiff, Nat.reduceLT, Int.reduceLE, Int.reduceLT, Int.reduceEq, Int.reduceToNat, ne_eq]
    refine next hlt _ _ ?_
    rw [ht]
    exact ⟨by simpa [put] using a5', l5, by simp [put, s0], by simp [put, s1], by simp [put, s2], by simp [put, s19], by simp [put, s20], by simp [put]⟩
  · have e : i = l.length := by omega
    subst e
    have hnl := Nat.lt_irrefl l.length
    rw [List.take_length] at a
    try simp only [s0, s1, s2, s20, s21, hnl, pmZ, Int.cast_ofNat_Int, beq_self_eq_true, Heap.kill_kset, pmC, pmE, pmS, pmV, pmK, pmQ, pmL, pmX, pmF, pmO, pmA, pmR, pmW, pmB, Option.isSome_some, ft, olds_ints, olds_bools, ↓reduceIte, Nat.reduceEqDiff, reduceCtorEq, Nat.reduceAdd, Nat.reduceMul, Nat.reduceLeDiff, Nat.reduceLT, Int.reduceLE, Int.reduceLT, Int.reduceEq, Int.reduceToNat, ne_eq]
    refine lintCount _ _ l (by omega) ks (by omega) _ ?_
    have hcl := cnt_le ks l
    have fin : ∀ {h' : Heap} {K : PV → Heap → Prop}, K (.bool true) h' → CanP Try.prog 4 [] h' K := fun k => awake _ k
    rcases a.live with ⟨e7, n0, c0⟩ | ⟨b, e7, hb0, hb, hbl⟩
    · have hn : l = [] := List.eq_nil_of_length_eq_zero n0
      subst hn
      try simp only [e7, s1, s2, pmZ, Int.cast_ofNat_Int, beq_self_eq_true, Heap.kill_kset, pmC, pmE, pmS, pmV, pmK, pmQ, pmL, pmX, pmF, pmO, pmA, pmR, pmW, pmB, Option.isSome_some, ft, olds_ints, olds_bools, ↓reduceIte, Nat.reduceEqDiff, reduceCtorEq, Nat.reduceAdd, Nat.reduceMul, Nat.reduceLeDiff, Nat.reduceLT, Int.reduceLE, Int.reduceLT, Int.reduceEq, Int.reduceToNat, ne_eq]
      refine CountNil _ ks (by omega) _ ?_
      rw [show cntT ks [] = 0 from rfl]
      try simp only [s2, pmZ, Int.cast_ofNat_Int, beq_self_eq_true, Heap.kill_kset, pmC, pmE, pmS, pmV, pmK, pmQ, pmL, pmX, pmF, pmO, pmA, pmR, pmW, pmB, Option.isSome_some, ft, olds_ints, olds_bools, ↓reduceIte, Nat.reduceEqDiff, reduceCtorEq, Nat.reduceAdd, Nat.reduceMul, Nat.reduceLeDiff, Nat.reduceLT, Int.reduceLE, Int.reduceLT, Int.reduceEq, Int.reduceToNat, ne_eq]
      refine hs1 _ _ ?_
      try simp only [s2, pmZ, Int.cast_ofNat_Int, beq_self_eq_true, Heap.kill_kset, pmC, pmE, pmS, pmV, pmK, pmQ, pmL, pmX, pmF, pmO, pmA, pmR, pmW, pmB, Option.isSome_some, ft, olds_ints, olds_bools, ↓reduceIte, Nat.reduceEqDiff, reduceCtorEq, Nat.reduceAdd, Nat.reduceMul, Nat.reduceLeDiff, Nat.reduceLT, Int.reduceLE, Int.reduceLT, Int.reduceEq, Int.reduceToNat, ne_eq]
      refine hs2 _ _ ?_
      try simp only [pmZ, Int.cast_ofNat_Int, beq_self_eq_true, Heap.kill_kset, pmC, pmE, pmS, pmV, pmK, pmQ, pmL, pmX, pmF, pmO, pmA, pmR, pmW, pmB, Option.isSome_some, ft, olds_ints, olds_bools, ↓reduceIte, Nat.reduceEqDiff, reduceCtorEq, Nat.reduceAdd, Nat.reduceMul, Nat.reduceLeDiff, Nat.reduceLT, Int.reduceLE, Int.reduceLT, Int.reduceEq, Int.reduceToNat, ne_eq]
      refine awake _ ?_
      try simp only [pmZ, Int.cast_ofNat_Int, beq_self_eq_true, Heap.kill_kset, pmC, pmE, pmS, pmV, pmK, pmQ, pmL, pmX, pmF, pmO, pmA, pmR, pmW, pmB, Option.isSome_some, ft, olds_ints, olds_bools, ↓reduceIte, Nat.reduceEqDiff, reduceCtorEq, Nat.reduceAdd, Nat.reduceMul, Nat.reduceLeDiff, Nat.reduceLT, Int.reduceLE, Int.reduceLT, Int.reduceEq, Int.reduceToNat, ne_eq]
      exact finK_le lh k
    · have hle : l.length * 2 ≤ (l.flatMap sp).length := by omega
      have hz : (l.flatMap sp).take (l.length * 2) = l.flatMap sp := List.take_of_length_le (by omega)
      have lk : h.le (h'.kill b) := Heap.le_kill lh hb0
      try simp only [e7, hb, hle, hz, old_sp, s1, s2, pmZ, Int.cast_ofNat_Int, beq_self_eq_true, Heap.kill_kset, pmC, pmE, pmS, pmV, pmK, pmQ, pmL, pmX, pmF, pmO, pmA, pmR, pmW, pmB, Option.isSome_some, ft, olds_ints, olds_bools, ↓reduceIte, Nat.reduceEqDiff, reduceCtorEq, Nat.reduceAdd, Nat.reduceMul, Nat.reduceLeDiff, Nat.reduceLT, Int.reduceLE, Int.reduceLT, Int.reduceEq, Int.reduceToNat, ne_eq]
      refine CountR _ _ l (by omega) ks (by omega) _ ?_
      try simp only [s2, pmZ, Int.cast_ofNat_Int, beq_self_eq_true, Heap.kill_kset, pmC, pmE, pmS, pmV, pmK, pmQ, pmL, pmX, pmF, pmO, pmA, pmR, pmW, pmB, Option.isSome_some, ft, olds_ints, olds_bools, ↓reduceIte, Nat.reduceEqDiff, reduceCtorEq, Nat.reduceAdd, Nat.reduceMul, Nat.reduceLeDiff, Nat.reduceLT, Int.reduceLE, Int.reduceLT, Int.reduceEq, Int.reduceToNat, ne_eq]
      refine hs1 _ _ ?_
      try simp only [s2, pmZ, Int.cast_ofNat_Int, beq_self_eq_true, Heap.kill_kset, pmC, pmE, pmS, pmV, pmK, pmQ, pmL, pmX, pmF, pmO, pmA, pmR, pmW, pmB, Option.isSome_some, ft, olds_ints, olds_bools, ↓reduceIte, Nat.reduceEqDiff, reduceCtorEq, Nat.reduceAdd, Nat.reduceMul, Nat.reduceLeDiff, Nat.reduceLT, Int.reduceLE, Int.reduceLT, Int.reduceEq, Int.reduceToNat, ne_eq]
      refine hs2 _ _ ?_
      try simp only [pmZ, Int.cast_ofNat_Int, beq_self_eq_true, Heap.kill_kset, pmC, pmE, pmS, pmV, pmK, pmQ, pmL, pmX, pmF, pmO, pmA, pmR, pmW, pmB, Option.isSome_some, ft, olds_ints, olds_bools, ↓reduceIte, Nat.reduceEqDiff, reduceCtorEq, Nat.reduceAdd, Nat.reduceMul, Nat.reduceLeDiff, Nat.reduceLT, Int.reduceLE, Int.reduceLT, Int.reduceEq, Int.reduceToNat, ne_eq]
      refine awake _ ?_
      try simp only [pmZ, Int.cast_ofNat_Int, beq_self_eq_true, Heap.kill_kset, pmC, pmE, pmS, pmV, pmK, pmQ, pmL, pmX, pmF, pmO, pmA, pmR, pmW, pmB, Option.isSome_some, ft, olds_ints, olds_bools, ↓reduceIte, Nat.reduceEqDiff, reduceCtorEq, Nat.reduceAdd, Nat.reduceMul, Nat.reduceLeDiff, Nat.reduceLT, Int.reduceLE, Int.reduceLT, Int.reduceEq, Int.reduceToNat, ne_eq]
      exact finK_le lk k
def kinds_LintCounts : List AKind := [.row [some .i64, some .i64] 16, .row [some .i64] 8, .one (some .i64)]
theorem all_LintCounts (pvs : List PV) (h : IsArgs kinds_LintCounts pvs) : CanP Try.prog 3 pvs Heap.nil (fun v _ => v = .bool true) := by
  obtain ⟨p1, r1, rfl, ⟨rows1, hr1, hz1, hl1, rfl⟩, p2, r2, rfl, ⟨rows2, hr2, hz2, hl2, rfl⟩, p3, r3, rfl, ⟨n, rfl, hw⟩, rfl⟩ := h
  obtain ⟨l, rfl, hx⟩ := rows_of sp _ fits_sp hr1
  obtain ⟨ks, rfl, hx2⟩ := rows_of (fun x => [.int .i64 x]) _ fits_int49 hr2
  rw [flat_ints49, ← List.flatMap_def]
  simp only [List.length_map] at hl1 hz1 hl2 hz2 ⊢
  exact law_LintCounts l ks n (by omega) (by omega) _ rfl
end Go.Proofs.Ytcgaphmndnmfdaa
