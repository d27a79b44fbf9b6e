/-
  Which codes stay, as the document says; the laws StripTells and StripTwice.
  Conditions: none but those that each sentence tells.
-/
import Derived.Test.YtjabiegaeflhjaaStrip1
namespace Go.Proofs.Ytjabiegaeflhjaa
open Go.Pm
set_option maxRecDepth 100000
set_option linter.unusedSimpArgs false
set_option linter.unusedVariables false

theorem PlacesR (fr : Bool) (l : List Int) (hl : l.length ≤ 1000000) (h : Heap) {K : PV → Heap → Prop} (k : K (.list true 1 (placesK l).length ((placesK l).map (.int .i64))) h) : CanP Try.prog 43 [.list fr 1 l.length (l.map (.int .i64))] h K := by
  refine e43 rfl ?_
  try simp only [c43, r43_0, r43_1, r43_2, r43_3, r43_4, r43_5, r43_6, r43_7, or_false, false_or, Bool.and_self, Bool.and_true, Bool.true_and, Bool.and_false, Bool.false_and, Bool.not_not, Int.cast_ofNat_Int, beq_self_eq_true, Heap.set_same, Heap.set_set, Heap.kill_kset, Int.toNat_natCast, Int.natCast_nonneg, Int.ofNat_lt, Int.ofNat_le, Int.natCast_inj, pmC, pmE, pmS, pmV, pmK, pmQ, pmL, pmX, pmF, pmO, pmA, pmR, pmW, pmB, Option.isSome_some, ft, olds_ints, olds_bools, ↓reduceIte, Nat.reduceEqDiff, reduceCtorEq, Nat.reduceAdd, Nat.reduceMul, Nat.reduceLeDiff, Nat.reduceLT, Int.reduceLE, Int.reduceLT, Int.reduceEq, Int.reduceToNat, Nat.zero_mul, Nat.zero_add, Nat.mul_one, ne_eq, not_false_eq_true, not_true_eq_false, true_and, and_true, decide_true, decide_false, Bool.not_true, Bool.not_false, Bool.false_eq_true, and_self, Nat.add_zero]
  refine pwp_up l.length (fun i σ h' => Acc h h' (σ 3) 1 (kI (fun i _ => i) l i).length ((kI (fun i _ => i) l i).map (.int .i64)) ∧ h.le h' ∧ σ 0 = .list false 1 l.length (l.map (.int .i64)) ∧ σ 4 = .int .i64 i) ?_ ?_
  · exact ⟨Acc.nil _ _ _, Heap.le_refl _, rfl, rfl⟩
  · rintro i σ h' K' hi ⟨a, lh, s0, s4⟩ next
    try simp only [s0, s4, cdK_dec, or_false, false_or, Bool.and_self, Bool.and_true, Bool.true_and, Bool.and_false, Bool.false_and, Bool.not_not, Int.cast_ofNat_Int, beq_self_eq_true, Heap.set_same, Heap.set_set, Heap.kill_kset, Int.toNat_natCast, Int.natCast_nonneg, Int.ofNat_lt, Int.ofNat_le, Int.natCast_inj, pmC, pmE, pmS, pmV, pmK, pmQ, pmL, pmX, pmF, pmO, pmA, pmR, pmW, pmB, Option.isSome_some, ft, olds_ints, olds_bools, ↓reduceIte, Nat.reduceEqDiff, reduceCtorEq, Nat.reduceAdd, Nat.reduceMul, Nat.reduceLeDiff, Nat.reduceLT, Int.reduceLE, Int.reduceLT, Int.reduceEq, Int.reduceToNat, Nat.zero_mul, Nat.zero_add, Nat.mul_one, ne_eq, not_false_eq_true, not_true_eq_false, true_and, and_true, decide_true, decide_false, Bool.not_true, Bool.not_false, Bool.false_eq_true, and_self, Nat.add_zero]
    refine ⟨fun hlt => ?_, fun hge => ?_⟩
    · have hx := getm (.int .i64) l hlt
      have hk : kI (fun i _ => (i : Int)) l (i + 1) = if stays (l.getD i default) then kI (fun i _ => (i : Int)) l i ++ [(i : Int)] else kI (fun i _ => (i : Int)) l i := rfl
      have hkl := kI_len (fun i _ => (i : Int)) l i
      generalize l.getD i default = c at *
      unfold stays at hk
      try simp only [s0, s4, hx, hlt, or_false, false_or, Bool.and_self, Bool.and_true, Bool.true_and, Bool.and_false, Bool.false_and, Bool.not_not, Int.cast_ofNat_Int, beq_self_eq_true, Heap.set_same, Heap.set_set, Heap.kill_kset, Int.toNat_natCast, Int.natCast_nonneg, Int.ofNat_lt, Int.ofNat_le, Int.natCast_inj, pmC, pmE, pmS, pmV, pmK, pmQ, pmL, pmX, pmF, pmO, pmA, pmR, pmW, pmB, Option.isSome_some, ft, olds_ints, olds_bools, ↓reduceIte, Nat.reduceEqDiff, reduceCtorEq, Nat.reduceAdd, Nat.reduceMul, Nat.reduceLeDiff, Nat.reduceLT, Int.reduceLE, Int.reduceLT, Int.reduceEq, Int.reduceToNat, Nat.zero_mul, Nat.zero_add, Nat.mul_one, ne_eq, not_false_eq_true, not_true_eq_false, true_and, and_true, decide_true, decide_false, Bool.not_true, Bool.not_false, Bool.false_eq_true, and_self, Nat.add_zero]
      refine ControlR _ _ ?_
      cases hs : controlT c
      · rw [hs] at hk
        simp only [Bool.not_false, if_true] at hk
        try simp only [s4, or_false, false_or, Bool.and_self, Bool.and_true, Bool.true_and, Bool.and_false, Bool.false_and, Bool.not_not, Int.cast_ofNat_Int, beq_self_eq_true, Heap.set_same, Heap.set_set, Heap.kill_kset, Int.toNat_natCast, Int.natCast_nonneg, Int.ofNat_lt, Int.ofNat_le, Int.natCast_inj, pmC, pmE, pmS, pmV, pmK, pmQ, pmL, pmX, pmF, pmO, pmA, pmR, pmW, pmB, Option.isSome_some, ft, olds_ints, olds_bools, ↓reduceIte, Nat.reduceEqDiff, reduceCtorEq, Nat.reduceAdd, Nat.reduceMul, Nat.reduceLeDiff, Nat.reduceLT, Int.reduceLE, Int.reduceLT, Int.reduceEq, Int.reduceToNat, Nat.zero_mul, Nat.zero_add, Nat.mul_one, ne_eq, not_false_eq_true, not_true_eq_false, true_and, and_true, decide_true, decide_false, Bool.not_true, Bool.not_false, Bool.false_eq_true, and_self, Nat.add_zero]
        refine a.app lh (by decide) rfl (by omega) (by simp only [maxLen]; omega) fun v' h3 a' l' sd => ?_
        try simp only [s4, or_false, false_or, Bool.and_self, Bool.and_true, Bool.true_and, Bool.and_false, Bool.false_and, Bool.not_not, Int.cast_ofNat_Int, beq_self_eq_true, Heap.set_same, Heap.set_set, Heap.kill_kset, Int.toNat_natCast, Int.natCast_nonneg, Int.ofNat_lt, Int.ofNat_le, Int.natCast_inj, pmC, pmE, pmS, pmV, pmK, pmQ, pmL, pmX, pmF, pmO, pmA, pmR, pmW, pmB, Option.isSome_some, ft, olds_ints, olds_bools, ↓reduceIte, Nat.reduceEqDiff, reduceCtorEq, Nat.reduceAdd, Nat.reduceMul, Nat.reduceLeDiff, Nat.reduceLT, Int.reduceLE, Int.reduceLT, Int.reduceEq, Int.reduceToNat, Nat.zero_mul, Nat.zero_add, Nat.mul_one, ne_eq, not_false_eq_true, not_true_eq_false, true_and, and_true, decide_true, decide_false, Bool.not_true, Bool.not_false, Bool.false_eq_true, and_self, Nat.add_zero]
        rw [wrap_in (by omega) (by omega)]
        exact next hlt _ _ ⟨by rw [hk]; simpa [put] using a', l', by simp [put, s0], by simp [put]⟩
      · rw [hs] at hk
        simp only [Bool.not_true, Bool.false_eq_true, if_false] at hk
        try simp only [s4, or_false, false_or, Bool.and_self, Bool.and_true, Bool.true_and, Bool.and_false, Bool.false_and, Bool.not_not, Int.cast_ofNat_Int, beq_self_eq_true, Heap.set_same, Heap.set_set, Heap.kill_kset, Int.toNat_natCast, Int.natCast_nonneg, Int.ofNat_lt, Int.ofNat_le, Int.natCast_inj, pmC, pmE, pmS, pmV, pmK, pmQ, pmL, pmX, pmF, pmO, pmA, pmR, pmW, pmB, Option.isSome_some, ft, olds_ints, olds_bools, ↓reduceIte, Nat.reduceEqDiff, reduceCtorEq, Nat.reduceAdd, Nat.reduceMul, Nat.reduceLeDiff, Nat.reduceLT, Int.reduceLE, Int.reduceLT, Int.reduceEq, Int.reduceToNat, Nat.zero_mul, Nat.zero_add, Nat.mul_one, ne_eq, not_false_eq_true, not_true_eq_false, true_and, and_true, decide_true, decide_false, Bool.not_true, Bool.not_false, Bool.false_eq_true, and_self, Nat.add_zero]
        rw [wrap_in (by omega) (by omega)]
        exact next hlt _ _ ⟨by rw [hk]; simpa [put] using a, lh, by simp [put, s0], by simp [put]⟩
    · have hil : i = l.length := by omega
      subst hil
      try simp only [s4, or_false, false_or, Bool.and_self, Bool.and_true, Bool.true_and, Bool.and_false, Bool.false_and, Bool.not_not, Int.cast_ofNat_Int, beq_self_eq_true, Heap.set_same, Heap.set_set, Heap.kill_kset, Int.toNat_natCast, Int.natCast_nonneg, Int.ofNat_lt, Int.ofNat_le, Int.natCast_inj, pmC, pmE, pmS, pmV, pmK, pmQ, pmL, pmX, pmF, pmO, pmA, pmR, pmW, pmB, Option.isSome_some, ft, olds_ints, olds_bools, ↓reduceIte, Nat.reduceEqDiff, reduceCtorEq, Nat.reduceAdd, Nat.reduceMul, Nat.reduceLeDiff, Nat.reduceLT, Int.reduceLE, Int.reduceLT, Int.reduceEq, Int.reduceToNat, Nat.zero_mul, Nat.zero_add, Nat.mul_one, ne_eq, not_false_eq_true, not_true_eq_false, true_and, and_true, decide_true, decide_false, Bool.not_true, Bool.not_false, Bool.false_eq_true, and_self, Nat.add_zero]
      exact a.fin lh (by rw [olds_ints]; exact k)
theorem places_in (l : List Int) : ∀ i, ∀ x ∈ kI (fun i _ => (i : Int)) l i, 0 ≤ x ∧ x < i
  | 0, x, h => by simp [kI] at h
  | i + 1, x, h => by
    have ih := places_in l i
    unfold kI at h
    split at h
    · rcases List.mem_append.1 h with h | h
      · have := ih x h; omega
      · simp at h; omega
    · have := ih x h; omega
theorem places_codes (l : List Int) : ∀ i, (kI (fun i _ => (i : Int)) l i).map (fun x => l.getD x.toNat default) = kI (fun _ c => c) l i
  | 0 => rfl
  | i + 1 => by
    have ih := places_codes l i
    unfold kI
    split
    · rw [List.map_append, ih]; simp
    · exact ih
theorem places_up (l : List Int) : ∀ i, (kI (fun i _ => (i : Int)) l i).Pairwise (· < ·)
  | 0 => by simp [kI]
  | i + 1 => by
    have ih := places_up l i
    unfold kI
    split
    · rw [List.pairwise_append]
      refine ⟨ih, by simp, fun a ha b hb => ?_⟩
      have := places_in l i a ha
      simp at hb; omega
    · exact ih
theorem codes_filter (l : List Int) : ∀ i, i ≤ l.length → kI (fun _ c => c) l i = (l.take i).filter stays
  | 0, _ => by simp [kI]
  | i + 1, h => by
    have ih := codes_filter l i (by omega)
    have e : l.take (i + 1) = l.take i ++ [l.getD i default] := by
      rw [List.take_succ_eq_append_getElem (by omega)]; simp [List.getD, show i < l.length by omega]
    rw [kI, e, List.filter_append, ih]
    generalize l.getD i default = c at *
    cases hs : stays c <;> simp [List.filter_cons, hs]
theorem codesK_eq (l : List Int) : codesK l = l.filter stays := by rw [codesK, codes_filter l _ (Nat.le_refl _), List.take_length]
theorem codesK_twice (l : List Int) : codesK (codesK l) = codesK l := by rw [codesK_eq, codesK_eq, List.filter_filter]; simp
theorem placesK_len (l : List Int) : (placesK l).length = (codesK l).length := by
  have := congrArg List.length (places_codes l l.length)
  simpa [placesK, codesK] using this
theorem codesK_len (l : List Int) : (codesK l).length ≤ l.length := kI_len _ _ _
theorem place_at (l : List Int) {i : Nat} (h : i < (codesK l).length) : 0 ≤ (placesK l).getD i default ∧ (placesK l).getD i default < l.length ∧ l.getD ((placesK l).getD i default).toNat default = (codesK l).getD i default ∧ stays ((codesK l).getD i default) = true := by
  have h2 : i < (placesK l).length := by rw [placesK_len]; exact h
  have hm : (placesK l).getD i default ∈ placesK l := by simp [List.getD, h2]
  have b := places_in l l.length _ hm
  have hc := places_codes l l.length
  have hc2 : l.getD ((placesK l).getD i default).toNat default = (codesK l).getD i default := by
    rw [codesK, ← hc, ← placesK]
    simp [List.getD, h2]
  have hm2 : (codesK l).getD i default ∈ codesK l := by simp [List.getD, h]
  refine ⟨b.1, b.2, hc2, ?_⟩
  rw [codesK_eq] at hm2
  have := (List.mem_filter.1 hm2).2
  rwa [← codesK_eq] at this
theorem place_up (l : List Int) {i : Nat} (h0 : 0 < i) (h : i < (placesK l).length) : (placesK l).getD (i - 1) default < (placesK l).getD i default := by
  have := List.pairwise_iff_getElem.1 (places_up l l.length) (i - 1) i (by show i - 1 < (placesK l).length; omega) h (by omega)
  have e : (placesK l)[i - 1]'(by omega) < (placesK l)[i] := this
  simpa [List.getD, h, show i - 1 < (placesK l).length by omega] using e
theorem CodesR (fr : Bool) (l : List Int) (hl : l.length ≤ 1000000) (h : Heap) {K : PV → Heap → Prop} (k : K (.list true 1 (codesK l).length ((codesK l).map (.int .i64))) h) : CanP Try.prog 29 [.list fr 1 l.length (l.map (.int .i64))] h K := by
  refine e29 rfl ?_
  try simp only [c29, r29_0, r29_1, r29_2, r29_3, r29_4, r29_5, r29_6, r29_7, or_false, false_or, Bool.and_self, Bool.and_true, Bool.true_and, Bool.and_false, Bool.false_and, Bool.not_not, Int.cast_ofNat_Int, beq_self_eq_true, Heap.set_same, Heap.set_set, Heap.kill_kset, Int.toNat_natCast, Int.natCast_nonneg, Int.ofNat_lt, Int.ofNat_le, Int.natCast_inj, pmC, pmE, pmS, pmV, pmK, pmQ, pmL, pmX, pmF, pmO, pmA, pmR, pmW, pmB, Option.isSome_some, ft, olds_ints, olds_bools, ↓reduceIte, Nat.reduceEqDiff, reduceCtorEq, Nat.reduceAdd, Nat.reduceMul, Nat.reduceLeDiff, Nat.reduceLT, Int.reduceLE, Int.reduceLT, Int.reduceEq, Int.reduceToNat, Nat.zero_mul, Nat.zero_add, Nat.mul_one, ne_eq, not_false_eq_true, not_true_eq_false, true_and, and_true, decide_true, decide_false, Bool.not_true, Bool.not_false, Bool.false_eq_true, and_self, Nat.add_zero]
  refine PlacesR _ _ hl _ ?_
  have hlen := placesK_len l
  have hcl := codesK_len l
  try simp only [or_false, false_or, Bool.and_self, Bool.and_true, Bool.true_and, Bool.and_false, Bool.false_and, Bool.not_not, Int.cast_ofNat_Int, beq_self_eq_true, Heap.set_same, Heap.set_set, Heap.kill_kset, Int.toNat_natCast, Int.natCast_nonneg, Int.ofNat_lt, Int.ofNat_le, Int.natCast_inj, pmC, pmE, pmS, pmV, pmK, pmQ, pmL, pmX, pmF, pmO, pmA, pmR, pmW, pmB, Option.isSome_some, ft, olds_ints, olds_bools, ↓reduceIte, Nat.reduceEqDiff, reduceCtorEq, Nat.reduceAdd, Nat.reduceMul, Nat.reduceLeDiff, Nat.reduceLT, Int.reduceLE, Int.reduceLT, Int.reduceEq, Int.reduceToNat, Nat.zero_mul, Nat.zero_add, Nat.mul_one, ne_eq, not_false_eq_true, not_true_eq_false, true_and, and_true, decide_true, decide_false, Bool.not_true, Bool.not_false, Bool.false_eq_true, and_self, Nat.add_zero]
  refine pwp_up (placesK l).length (fun i σ h' => Acc h h' (σ 3) 1 i (((codesK l).take i).map (.int .i64)) ∧ h.le h' ∧ σ 0 = .list false 1 l.length (l.map (.int .i64)) ∧ (∃ fr, σ 4 = .list fr 1 (placesK l).length ((placesK l).map (.int .i64))) ∧ σ 5 = .int .i64 i) ?_ ?_
  · exact ⟨Acc.nil _ _ _, Heap.le_refl _, rfl, ⟨_, rfl⟩, rfl⟩
  · rintro i σ h' K' hi ⟨a, lh, s0, ⟨fr', s4⟩, s5⟩ next
    try simp only [s4, s5, cdK_dec, or_false, false_or, Bool.and_self, Bool.and_true, Bool.true_and, Bool.and_false, Bool.false_and, Bool.not_not, Int.cast_ofNat_Int, beq_self_eq_true, Heap.set_same, Heap.set_set, Heap.kill_kset, Int.toNat_natCast, Int.natCast_nonneg, Int.ofNat_lt, Int.ofNat_le, Int.natCast_inj, pmC, pmE, pmS, pmV, pmK, pmQ, pmL, pmX, pmF, pmO, pmA, pmR, pmW, pmB, Option.isSome_some, ft, olds_ints, olds_bools, ↓reduceIte, Nat.reduceEqDiff, reduceCtorEq, Nat.reduceAdd, Nat.reduceMul, Nat.reduceLeDiff, Nat.reduceLT, Int.reduceLE, Int.reduceLT, Int.reduceEq, Int.reduceToNat, Nat.zero_mul, Nat.zero_add, Nat.mul_one, ne_eq, not_false_eq_true, not_true_eq_false, true_and, and_true, decide_true, decide_false, Bool.not_true, Bool.not_false, Bool.false_eq_true, and_self, Nat.add_zero]
    refine ⟨fun hlt => ?_, fun hge => ?_⟩
    · have hx := getm (.int .i64) (placesK l) hlt
      obtain ⟨p1, p2, p3, _⟩ := place_at l (i := i) (by omega)
      have ht : ((codesK l).take (i + 1)).map (PV.int .i64) = ((codesK l).take i).map (PV.int .i64) ++ [.int .i64 ((codesK l).getD i default)] := take_succ_map (PV.int .i64) (codesK l) (by omega)
      have hy := getm (.int .i64) l (i := ((placesK l).getD i default).toNat) (by omega)
      rw [p3] at hy
      generalize (placesK l).getD i default = q at *
      generalize (codesK l).getD i default = c at *
      try simp only [s0, s4, s5, hx, hlt, p1, p2, hy, or_false, false_or, Bool.and_self, Bool.and_true, Bool.true_and, Bool.and_false, Bool.false_and, Bool.not_not, Int.cast_ofNat_Int, beq_self_eq_true, Heap.set_same, Heap.set_set, Heap.kill_kset, Int.toNat_natCast, Int.natCast_nonneg, Int.ofNat_lt, Int.ofNat_le, Int.natCast_inj, pmC, pmE, pmS, pmV, pmK, pmQ, pmL, pmX, pmF, pmO, pmA, pmR, pmW, pmB, Option.isSome_some, ft, olds_ints, olds_bools, ↓reduceIte, Nat.reduceEqDiff, reduceCtorEq, Nat.reduceAdd, Nat.reduceMul, Nat.reduceLeDiff, Nat.reduceLT, Int.reduceLE, Int.reduceLT, Int.reduceEq, Int.reduceToNat, Nat.zero_mul, Nat.zero_add, Nat.mul_one, ne_eq, not_false_eq_true, not_true_eq_false, true_and, and_true, decide_true, decide_false, Bool.not_true, Bool.not_false, Bool.false_eq_true, and_self, Nat.add_zero]
      refine a.app lh (by decide) rfl (by omega) (by simp only [maxLen]; omega) fun v' h3 a' l' sd => ?_
      try simp only [s5, or_false, false_or, Bool.and_self, Bool.and_true, Bool.true_and, Bool.and_false, Bool.false_and, Bool.not_not, Int.cast_ofNat_Int, beq_self_eq_true, Heap.set_same, Heap.set_set, Heap.kill_kset, Int.toNat_natCast, Int.natCast_nonneg, Int.ofNat_lt, Int.ofNat_le, Int.natCast_inj, pmC, pmE, pmS, pmV, pmK, pmQ, pmL, pmX, pmF, pmO, pmA, pmR, pmW, pmB, Option.isSome_some, ft, olds_ints, olds_bools, ↓reduceIte, Nat.reduceEqDiff, reduceCtorEq, Nat.reduceAdd, Nat.reduceMul, Nat.reduceLeDiff, Nat.reduceLT, Int.reduceLE, Int.reduceLT, Int.reduceEq, Int.reduceToNat, Nat.zero_mul, Nat.zero_add, Nat.mul_one, ne_eq, not_false_eq_true, not_true_eq_false, true_and, and_true, decide_true, decide_false, Bool.not_true, Bool.not_false, Bool.false_eq_true, and_self, Nat.add_zero]
      rw [wrap_in (by omega) (by omega)]
      exact next hlt _ _ ⟨by rw [ht]; simpa [put] using a', l', by simp [put, s0], ⟨fr', by simp [put, s4]⟩, by simp [put]⟩
    · have hil : i = (placesK l).length := by omega
      subst hil
      try simp only [s5, or_false, false_or, Bool.and_self, Bool.and_true, Bool.true_and, Bool.and_false, Bool.false_and, Bool.not_not, Int.cast_ofNat_Int, beq_self_eq_true, Heap.set_same, Heap.set_set, Heap.kill_kset, Int.toNat_natCast, Int.natCast_nonneg, Int.ofNat_lt, Int.ofNat_le, Int.natCast_inj, pmC, pmE, pmS, pmV, pmK, pmQ, pmL, pmX, pmF, pmO, pmA, pmR, pmW, pmB, Option.isSome_some, ft, olds_ints, olds_bools, ↓reduceIte, Nat.reduceEqDiff, reduceCtorEq, Nat.reduceAdd, Nat.reduceMul, Nat.reduceLeDiff, Nat.reduceLT, Int.reduceLE, Int.reduceLT, Int.reduceEq, Int.reduceToNat, Nat.zero_mul, Nat.zero_add, Nat.mul_one, ne_eq, not_false_eq_true, not_true_eq_false, true_and, and_true, decide_true, decide_false, Bool.not_true, Bool.not_false, Bool.false_eq_true, and_self, Nat.add_zero]
      rw [hlen, List.take_length] at a
      exact a.fin lh (by rw [olds_ints]; exact k)
theorem fits_int (r : List PV) (h : Fits [some .i64] r) : ∃ x : Int, r = [.int .i64 x] ∧ (x ≤ 9223372036854775807 ∧ -9223372036854775808 ≤ x) := by
  obtain ⟨a, r, rfl, ha, rfl⟩ := h
  have := wf64 ha
  exact ⟨a, rfl, by omega⟩
theorem flat_ints (l : List Int) : (List.map (fun x => [PV.int IntKind.i64 x]) l).flatten = l.map (.int .i64) := by
  induction l with
  | nil => rfl
  | cons x l ih => simp [ih]
def kinds_StripTells : List AKind := [.row [some .i64] 8]
def kinds_StripTwice : List AKind := [.row [some .i64] 8]
end Go.Proofs.Ytjabiegaeflhjaa
