/-
  Lines that are wide enough, and the law WrapWide.
  Conditions: none but those that each sentence tells.
-/
import Derived.Test.YtgmhdkheglnbhaaWrp8
namespace Go.Proofs.Ytgmhdkheglnbhaa
open Go.Pm
set_option maxRecDepth 100000
set_option linter.unusedSimpArgs false
set_option linter.unusedVariables false

/-- Each part begins where the text does, or behind what ends a paragraph. -/
theorem spl_a (X : List Int) : ∀ i, ((spl X i).2 = 0 ∨ ∃ k, k < i ∧ brkT X k = true ∧ (spl X i).2 = ((k + 1 : Nat) : Int)) ∧ ∀ p ∈ (spl X i).1, p.1 = 0 ∨ ∃ k, k < i ∧ brkT X k = true ∧ p.1 = ((k + 1 : Nat) : Int)
  | 0 => ⟨.inl rfl, fun p hp => by cases hp⟩
  | i + 1 => by
    have ih := spl_a X i
    have up : ∀ z : Int, (z = 0 ∨ ∃ k, k < i ∧ brkT X k = true ∧ z = ((k + 1 : Nat) : Int)) → (z = 0 ∨ ∃ k, k < i + 1 ∧ brkT X k = true ∧ z = ((k + 1 : Nat) : Int)) := fun z h => by
      rcases h with h | ⟨k, a, b, c⟩
      · exact .inl h
      · exact .inr ⟨k, by omega, b, c⟩
    unfold spl
    split
    · rename_i hb
      refine ⟨.inr ⟨i, by omega, hb, rfl⟩, fun p hp => ?_⟩
      rcases List.mem_append.1 hp with hp | hp
      · exact up _ (ih.2 p hp)
      · rw [List.mem_singleton.1 hp]; exact up _ ih.1
    · exact ⟨up _ ih.1, fun p hp => up _ (ih.2 p hp)⟩
theorem spl_b (X : List Int) : ∀ i k, k < i → brkT X k = true → (spl X i).2 = ((k + 1 : Nat) : Int) ∨ ∃ p ∈ (spl X i).1, p.1 = ((k + 1 : Nat) : Int)
  | 0, k, h, _ => by omega
  | i + 1, k, h, hb => by
    unfold spl
    rcases Nat.lt_or_ge k i with q | q
    · have ih := spl_b X i k q hb
      split
      · rcases ih with e | ⟨p, hp, e⟩
        · exact .inr ⟨_, List.mem_append.2 (.inr (List.mem_singleton.2 rfl)), e⟩
        · exact .inr ⟨p, List.mem_append.2 (.inl hp), e⟩
      · exact ih
    · have e : k = i := by omega
      subst e
      rw [if_pos hb]
      exact .inl rfl
theorem begB_of (X : List Int) {k : Nat} (hk : k + 1 < X.length) (hb : brkT X k = true) : begB (splitT X) ((k + 1 : Nat) : Int) = true := by
  unfold begB
  rw [List.any_eq_true]
  unfold splitT
  rcases spl_b X X.length k (by omega) hb with e | ⟨p, hp, e⟩
  · refine ⟨((spl X X.length).2, (X.length : Int)), List.mem_append.2 (.inr ?_), by simpa using e⟩
    rw [if_pos (by omega)]; simp
  · exact ⟨p, List.mem_append.2 (.inl hp), by simpa using e⟩
theorem brk_of (X : List Int) {j : Nat} (hj : 0 < j) (h : begB (splitT X) j = true) : brkT X (j - 1) = true := by
  unfold begB at h
  rw [List.any_eq_true] at h
  obtain ⟨p, hp, e⟩ := h
  have e : p.1 = j := by simpa using e
  have a := spl_a X X.length
  have : p.1 = 0 ∨ ∃ k, k < X.length ∧ brkT X k = true ∧ p.1 = ((k + 1 : Nat) : Int) := by
    unfold splitT at hp
    rcases List.mem_append.1 hp with hp | hp
    · exact a.2 p hp
    · split at hp
      · rw [List.mem_singleton.1 hp]; exact a.1
      · cases hp
  rcases this with q | ⟨k, _, q2, q3⟩
  · omega
  · rw [show j - 1 = k by omega]; exact q2
theorem end_wide (X : List Int) {lo : Nat} (h : lo < X.length) {most : Int} (hm : 2 * (X.length : Int) ≤ most) : endT X lo most = lim X lo := by
  have hl := lim_is X h
  have hlt := hl.lt
  have hle := hl.le
  unfold endT
  generalize lim X lo = L at *
  have hc : cellsL (cutX X lo L) ≤ most := by
    have a := sumW_take (cutX X lo L) (trimL (cutX X lo L) (cutX X lo L).length)
    have b := (sumW_le (cutX X lo L)).2
    rw [cutX_len X hle] at b
    show sumW _ ≤ most
    omega
  obtain ⟨n, rfl⟩ : ∃ n, L = n + 1 := ⟨L - 1, by omega⟩
  have : whl X lo (n + 1) most (n + 1) = some (n + 1) := by
    rw [whl, if_pos hlt, decide_eq_true rfl, Bool.true_or, Bool.true_and, if_pos (decide_eq_true hc)]
  rw [this]
/-- What a wide line holds. -/
structure Wide (X : List Int) (lo hi : Nat) : Prop where
  lt : lo < hi
  le : hi ≤ X.length
  no : ∀ k, lo ≤ k → k + 1 < hi → brkT X k = false
  yes : hi < X.length → brkT X (hi - 1) = true
theorem wide_of (X : List Int) {lo : Nat} (h : lo < X.length) : Wide X lo (lim X lo) := by
  have hl := lim_is X h
  refine ⟨hl.lt, hl.le, fun k h1 h2 => ?_, fun h1 => ?_⟩
  · rw [Bool.eq_false_iff]
    intro e
    have := begB_of X (k := k) (by have := hl.le; omega) e
    rw [hl.no (k + 1) (by omega) h2] at this
    cases this
  · rcases hl.beg with e | e
    · omega
    · exact brk_of X (by have := hl.lt; omega) e
theorem lines_wide (X : List Int) {most : Int} (hm : 2 * (X.length : Int) ≤ most) : ∀ (k a : Nat), a < X.length → X.length - a < k → ∀ i, i < (cuts X.length a (brkF X most k a)).length → ∃ lo hi : Nat, (cuts X.length a (brkF X most k a)).getD i default = ((lo : Int), (hi : Int)) ∧ Wide X lo hi ∧ (i + 1 < (cuts X.length a (brkF X most k a)).length → hi < X.length)
  | 0, a, _, h, i, hi => by omega
  | k + 1, a, ha, h, i, hi => by
    have hE := endT_in X ha most
    have hw := wide_of X ha
    rw [brkF, if_pos ha] at hi ⊢
    have ew := end_wide X ha hm
    by_cases c : endT X a most < X.length
    · rw [if_pos c, cuts] at hi ⊢
      cases i with
      | zero => exact ⟨a, endT X a most, rfl, by rw [ew]; exact hw, fun _ => c⟩
      | succ i =>
        have := lines_wide X hm k _ c (by omega) i (by simpa using hi)
        simpa using this
    · rw [if_neg c, cuts] at hi ⊢
      have e : lim X a = X.length := by have := hw.le; omega
      rw [e] at hw
      cases i with
      | zero => exact ⟨a, X.length, rfl, hw, fun q => by simp at q⟩
      | succ i => simp at hi
theorem lns_wide (X : List Int) (hX : X.length ≤ 500000) : ∀ i, i < (lnsT X 1048576).length → ∃ lo hi : Nat, (lnsT X 1048576).getD i default = ((lo : Int), (hi : Int)) ∧ Wide X lo hi ∧ (i + 1 < (lnsT X 1048576).length → hi < X.length) := by
  have he : erT 1048576 = false := by kernel_rfl
  have eb : bT X 1048576 = brkT2 X 1048576 := by unfold bT; rw [he]; rfl
  intro i hi
  unfold lnsT splL at hi ⊢
  rw [he, eb] at hi ⊢
  simp only [Bool.false_eq_true, if_false] at hi ⊢
  split
  · rename_i q
    rw [if_pos q] at hi
    exact lines_wide X (by omega) (X.length + 1) 0 (by omega) (by omega) i hi
  · rename_i q
    rw [if_neg q] at hi
    simp at hi
theorem law_WrapWide (X : List Int) (hl : X.length ≤ 17592186044416) (h : Heap) {K : PV → Heap → Prop} (k : K (.bool true) h) :
    CanP Try.prog 3 [.list false 1 X.length (X.map (.int .i64))] h K := by
  refine e3 rfl ?_
  by_cases h0 : (100 : Int) < (X.length : Int)
  · try simp only [c3, r3_0, r3_1, r3_2, r3_3, r3_4, r3_5, r3_6, r3_7, r3_8, r3_9, r3_10, r3_11, r3_12, r3_13, r3_14, r3_15, r3_16, r3_17, r3_18, h0, or_false, false_or, Bool.and_self, Bool.and_true, Bool.true_and, Bool.and_false, Bool.false_and, Bool.not_not, Int.cast_ofNat_Int, beq_self_eq_true, Heap.set_same, Heap.set_set, Heap.kill_kset, Int.toNat_natCast, Int.natCast_nonneg, Int.ofNat_lt, Int.ofNat_le, Int.natCast_inj, pmC, pmE, pmS, pmV, pmK, pmQ, pmL, pmX, pmF, pmO, pmA, pmR, pmW, pmB, Option.isSome_some, ft, olds_ints, olds_bools, ↓reduceIte, Nat.reduceEqDiff, reduceCtorEq, Nat.reduceAdd, Nat.reduceMul, Nat.reduceLeDiff, Nat.reduceLT, Int.reduceLE, Int.reduceLT, Int.reduceEq, Int.reduceToNat, Nat.zero_mul, Nat.zero_add, Nat.mul_one, ne_eq, not_false_eq_true, not_true_eq_false, true_and, and_true, decide_true, decide_false, Bool.not_true, Bool.not_false, Bool.false_eq_true, and_self, Nat.add_zero]
    refine awake _ ?_
    try simp only [or_false, false_or, Bool.and_self, Bool.and_true, Bool.true_and, Bool.and_false, Bool.false_and, Bool.not_not, Int.cast_ofNat_Int, beq_self_eq_true, Heap.set_same, Heap.set_set, Heap.kill_kset, Int.toNat_natCast, Int.natCast_nonneg, Int.ofNat_lt, Int.ofNat_le, Int.natCast_inj, pmC, pmE, pmS, pmV, pmK, pmQ, pmL, pmX, pmF, pmO, pmA, pmR, pmW, pmB, Option.isSome_some, ft, olds_ints, olds_bools, ↓reduceIte, Nat.reduceEqDiff, reduceCtorEq, Nat.reduceAdd, Nat.reduceMul, Nat.reduceLeDiff, Nat.reduceLT, Int.reduceLE, Int.reduceLT, Int.reduceEq, Int.reduceToNat, Nat.zero_mul, Nat.zero_add, Nat.mul_one, ne_eq, not_false_eq_true, not_true_eq_false, true_and, and_true, decide_true, decide_false, Bool.not_true, Bool.not_false, Bool.false_eq_true, and_self, Nat.add_zero]
    exact finK_le (Heap.le_refl _) k
  replace hl : X.length ≤ 1000000 := by omega
  have he : erT 1048576 = false := by kernel_rfl
  have hln := lnsT_len X 1048576
  have hp := lns_parts X he
  have hf := lns_wide X (by omega)
  try simp only [c3, r3_0, r3_1, r3_2, r3_3, r3_4, r3_5, r3_6, r3_7, r3_8, r3_9, r3_10, r3_11, r3_12, r3_13, r3_14, r3_15, r3_16, r3_17, r3_18, h0, or_false, false_or, Bool.and_self, Bool.and_true, Bool.true_and, Bool.and_false, Bool.false_and, Bool.not_not, Int.cast_ofNat_Int, beq_self_eq_true, Heap.set_same, Heap.set_set, Heap.kill_kset, Int.toNat_natCast, Int.natCast_nonneg, Int.ofNat_lt, Int.ofNat_le, Int.natCast_inj, pmC, pmE, pmS, pmV, pmK, pmQ, pmL, pmX, pmF, pmO, pmA, pmR, pmW, pmB, Option.isSome_some, ft, olds_ints, olds_bools, ↓reduceIte, Nat.reduceEqDiff, reduceCtorEq, Nat.reduceAdd, Nat.reduceMul, Nat.reduceLeDiff, Nat.reduceLT, Int.reduceLE, Int.reduceLT, Int.reduceEq, Int.reduceToNat, Nat.zero_mul, Nat.zero_add, Nat.mul_one, ne_eq, not_false_eq_true, not_true_eq_false, true_and, and_true, decide_true, decide_false, Bool.not_true, Bool.not_false, Bool.false_eq_true, and_self, Nat.add_zero]
  refine New _ fun p hpp => ?_
  try simp only [or_false, false_or, Bool.and_self, Bool.and_true, Bool.true_and, Bool.and_false, Bool.false_and, Bool.not_not, Int.cast_ofNat_Int, beq_self_eq_true, Heap.set_same, Heap.set_set, Heap.kill_kset, Int.toNat_natCast, Int.natCast_nonneg, Int.ofNat_lt, Int.ofNat_le, Int.natCast_inj, pmC, pmE, pmS, pmV, pmK, pmQ, pmL, pmX, pmF, pmO, pmA, pmR, pmW, pmB, Option.isSome_some, ft, olds_ints, olds_bools, ↓reduceIte, Nat.reduceEqDiff, reduceCtorEq, Nat.reduceAdd, Nat.reduceMul, Nat.reduceLeDiff, Nat.reduceLT, Int.reduceLE, Int.reduceLT, Int.reduceEq, Int.reduceToNat, Nat.zero_mul, Nat.zero_add, Nat.mul_one, ne_eq, not_false_eq_true, not_true_eq_false, true_and, and_true, decide_true, decide_false, Bool.not_true, Bool.not_false, Bool.false_eq_true, and_self, Nat.add_zero]
  refine MNew _ hpp _ fun m hm => ?_
  try simp only [or_false, false_or, Bool.and_self, Bool.and_true, Bool.true_and, Bool.and_false, Bool.false_and, Bool.not_not, Int.cast_ofNat_Int, beq_self_eq_true, Heap.set_same, Heap.set_set, Heap.kill_kset, Int.toNat_natCast, Int.natCast_nonneg, Int.ofNat_lt, Int.ofNat_le, Int.natCast_inj, pmC, pmE, pmS, pmV, pmK, pmQ, pmL, pmX, pmF, pmO, pmA, pmR, pmW, pmB, Option.isSome_some, ft, olds_ints, olds_bools, ↓reduceIte, Nat.reduceEqDiff, reduceCtorEq, Nat.reduceAdd, Nat.reduceMul, Nat.reduceLeDiff, Nat.reduceLT, Int.reduceLE, Int.reduceLT, Int.reduceEq, Int.reduceToNat, Nat.zero_mul, Nat.zero_add, Nat.mul_one, ne_eq, not_false_eq_true, not_true_eq_false, true_and, and_true, decide_true, decide_false, Bool.not_true, Bool.not_false, Bool.false_eq_true, and_self, Nat.add_zero]
  refine linesC p m hpp hm _ X hl 1048576 _ ?_
  rw [hp.1]
  try simp only [or_false, false_or, Bool.and_self, Bool.and_true, Bool.true_and, Bool.and_false, Bool.false_and, Bool.not_not, Int.cast_ofNat_Int, beq_self_eq_true, Heap.set_same, Heap.set_set, Heap.kill_kset, Int.toNat_natCast, Int.natCast_nonneg, Int.ofNat_lt, Int.ofNat_le, Int.natCast_inj, pmC, pmE, pmS, pmV, pmK, pmQ, pmL, pmX, pmF, pmO, pmA, pmR, pmW, pmB, Option.isSome_some, ft, olds_ints, olds_bools, ↓reduceIte, Nat.reduceEqDiff, reduceCtorEq, Nat.reduceAdd, Nat.reduceMul, Nat.reduceLeDiff, Nat.reduceLT, Int.reduceLE, Int.reduceLT, Int.reduceEq, Int.reduceToNat, Nat.zero_mul, Nat.zero_add, Nat.mul_one, ne_eq, not_false_eq_true, not_true_eq_false, true_and, and_true, decide_true, decide_false, Bool.not_true, Bool.not_false, Bool.false_eq_true, and_self, Nat.add_zero]
  generalize lnsT X 1048576 = Q at *
  refine pwp_up Q.length (fun i σ h' => h.le h' ∧ σ 0 = .list false 1 X.length (X.map (.int .i64)) ∧ (∃ fr, σ 4 = .list fr 2 Q.length (Q.flatMap sp)) ∧ (∃ fr, σ 24 = .list fr 2 Q.length (Q.flatMap sp)) ∧ σ 25 = .int .i64 Q.length ∧ σ 26 = .int .i64 i) ?_ ?_
  · exact ⟨Heap.le_refl _, rfl, ⟨_, rfl⟩, ⟨_, rfl⟩, rfl, rfl⟩
  rintro i σ h' K' hi ⟨lh, s0, ⟨f4, s4⟩, ⟨f24, s24⟩, s25, s26⟩ next
  rcases Nat.lt_or_ge i Q.length with hlt | hge
  · have hx := flat_at sp 2 sp_len Q hlt
    have hx2 : i * 2 + 2 ≤ (Q.flatMap sp).length := by rw [flat_length sp 2 sp_len]; omega
    have hw : IntKind.i64.wrap ((i : Int) + 1) = ((i + 1 : Nat) : Int) := by rw [wrap_in (by omega) (by omega)]; omega
    obtain ⟨lo, hi9, es, wd, g3⟩ := hf i hlt
    have wlt := wd.lt
    have wle := wd.le
    rw [es] at hx
    try simp only [s24, s25, s26, hlt, hx, hx2, sp, or_false, false_or, Bool.and_self, Bool.and_true, Bool.true_and, Bool.and_false, Bool.false_and, Bool.not_not, Int.cast_ofNat_Int, beq_self_eq_true, Heap.set_same, Heap.set_set, Heap.kill_kset, Int.toNat_natCast, Int.natCast_nonneg, Int.ofNat_lt, Int.ofNat_le, Int.natCast_inj, pmC, pmE, pmS, pmV, pmK, pmQ, pmL, pmX, pmF, pmO, pmA, pmR, pmW, pmB, Option.isSome_some, ft, olds_ints, olds_bools, ↓reduceIte, Nat.reduceEqDiff, reduceCtorEq, Nat.reduceAdd, Nat.reduceMul, Nat.reduceLeDiff, Nat.reduceLT, Int.reduceLE, Int.reduceLT, Int.reduceEq, Int.reduceToNat, Nat.zero_mul, Nat.zero_add, Nat.mul_one, ne_eq, not_false_eq_true, not_true_eq_false, true_and, and_true, decide_true, decide_false, Bool.not_true, Bool.not_false, Bool.false_eq_true, and_self, Nat.add_zero]
    intro b9 hb9
    have lh9 : h.le (h'.set b9 [.int .i64 lo, .int .i64 hi9]) := Heap.le_set lh (Heap.le_none lh hb9)
    refine pwp_fall (fun q σ h9 => ∃ kk : Nat, q = hi9 - kk ∧ lo ≤ kk ∧ kk < hi9 ∧ h9 = h'.set b9 [.int .i64 lo, .int .i64 hi9] ∧ σ 0 = .list false 1 X.length (X.map (.int .i64)) ∧ σ 4 = .list f4 2 Q.length (Q.flatMap sp) ∧ σ 24 = .list f24 2 Q.length (Q.flatMap sp) ∧ σ 25 = .int .i64 Q.length ∧ σ 26 = .int .i64 i ∧ σ 6 = .int .i64 i ∧ σ 7 = .ptr b9 0 ∧ σ 8 = .int .i64 kk) (hi9 - lo) ⟨lo, rfl, Nat.le_refl _, wlt, rfl, by simp [put, s0], by simp [put, s4], by simp [put, s24], by simp [put, s25], by simp [put, s26], by simp [put], by simp [put], by simp [put]⟩ ?_
    rintro q σ h9 K9 ⟨kk, rfl, hk1, hk2, rfl, s0, s4, s24, s25, s26, s6, s7, s8⟩ wnext
    have vk : IntKind.i64.wrap ((kk : Int) + 1) = ((kk + 1 : Nat) : Int) := by rw [wrap_in (by omega) (by omega)]; omega
    rcases Nat.lt_or_ge (kk + 1) hi9 with hkl | hkg
    · have nb := wd.no kk hk1 hkl
      have gk := getm (PV.int .i64) X (i := kk) (by omega)
      have gk1 := getm (PV.int .i64) X (i := kk + 1) (by omega)
      have l1 : kk < X.length := by omega
      have l2 : kk + 1 < X.length := by omega
      unfold brkT at nb
      rw [decide_eq_true l2, Bool.true_and] at nb
      generalize X.getD kk default = c at *
      generalize X.getD (kk + 1) default = d at *
      try simp only [s0, s7, s8, vk, hkl, gk, l1, or_false, false_or, Bool.and_self, Bool.and_true, Bool.true_and, Bool.and_false, Bool.false_and, Bool.not_not, Int.cast_ofNat_Int, beq_self_eq_true, Heap.set_same, Heap.set_set, Heap.kill_kset, Int.toNat_natCast, Int.natCast_nonneg, Int.ofNat_lt, Int.ofNat_le, Int.natCast_inj, pmC, pmE, pmS, pmV, pmK, pmQ, pmL, pmX, pmF, pmO, pmA, pmR, pmW, pmB, Option.isSome_some, ft, olds_ints, olds_bools, ↓reduceIte, Nat.reduceEqDiff, reduceCtorEq, Nat.reduceAdd, Nat.reduceMul, Nat.reduceLeDiff, Nat.reduceLT, Int.reduceLE, Int.reduceLT, Int.reduceEq, Int.reduceToNat, Nat.zero_mul, Nat.zero_add, Nat.mul_one, ne_eq, not_false_eq_true, not_true_eq_false, true_and, and_true, decide_true, decide_false, Bool.not_true, Bool.not_false, Bool.false_eq_true, and_self, Nat.add_zero]
      refine ClassR _ _ ?_
      by_cases q1 : classT c = 10
      · have : c = 13 ∧ d = 10 := by simpa [q1] using nb
        obtain ⟨rfl, rfl⟩ := this
        try simp only [q1, s0, s8, vk, gk, gk1, l1, l2, or_false, false_or, Bool.and_self, Bool.and_true, Bool.true_and, Bool.and_false, Bool.false_and, Bool.not_not, Int.cast_ofNat_Int, beq_self_eq_true, Heap.set_same, Heap.set_set, Heap.kill_kset, Int.toNat_natCast, Int.natCast_nonneg, Int.ofNat_lt, Int.ofNat_le, Int.natCast_inj, pmC, pmE, pmS, pmV, pmK, pmQ, pmL, pmX, pmF, pmO, pmA, pmR, pmW, pmB, Option.isSome_some, ft, olds_ints, olds_bools, ↓reduceIte, Nat.reduceEqDiff, reduceCtorEq, Nat.reduceAdd, Nat.reduceMul, Nat.reduceLeDiff, Nat.reduceLT, Int.reduceLE, Int.reduceLT, Int.reduceEq, Int.reduceToNat, Nat.zero_mul, Nat.zero_add, Nat.mul_one, ne_eq, not_false_eq_true, not_true_eq_false, true_and, and_true, decide_true, decide_false, Bool.not_true, Bool.not_false, Bool.false_eq_true, and_self, Nat.add_zero]
        exact wnext (hi9 - (kk + 1)) _ _ (by omega) ⟨kk + 1, rfl, by omega, hkl, rfl, by simp [put, s0], by simp [put, s4], by simp [put, s24], by simp [put, s25], by simp [put, s26], by simp [put, s6], by simp [put, s7], by simp [put]⟩
      · try simp only [q1, s8, vk, or_false, false_or, Bool.and_self, Bool.and_true, Bool.true_and, Bool.and_false, Bool.false_and, Bool.not_not, Int.cast_ofNat_Int, beq_self_eq_true, Heap.set_same, Heap.set_set, Heap.kill_kset, Int.toNat_natCast, Int.natCast_nonneg, Int.ofNat_lt, Int.ofNat_le, Int.natCast_inj, pmC, pmE, pmS, pmV, pmK, pmQ, pmL, pmX, pmF, pmO, pmA, pmR, pmW, pmB, Option.isSome_some, ft, olds_ints, olds_bools, ↓reduceIte, Nat.reduceEqDiff, reduceCtorEq, Nat.reduceAdd, Nat.reduceMul, Nat.reduceLeDiff, Nat.reduceLT, Int.reduceLE, Int.reduceLT, Int.reduceEq, Int.reduceToNat, Nat.zero_mul, Nat.zero_add, Nat.mul_one, ne_eq, not_false_eq_true, not_true_eq_false, true_and, and_true, decide_true, decide_false, Bool.not_true, Bool.not_false, Bool.false_eq_true, and_self, Nat.add_zero]
        exact wnext (hi9 - (kk + 1)) _ _ (by omega) ⟨kk + 1, rfl, by omega, hkl, rfl, by simp [put, s0], by simp [put, s4], by simp [put, s24], by simp [put, s25], by simp [put, s26], by simp [put, s6], by simp [put, s7], by simp [put]⟩
    · have hkn : ¬ kk + 1 < hi9 := by omega
      try simp only [s0, s7, s8, vk, hkn, or_false, false_or, Bool.and_self, Bool.and_true, Bool.true_and, Bool.and_false, Bool.false_and, Bool.not_not, Int.cast_ofNat_Int, beq_self_eq_true, Heap.set_same, Heap.set_set, Heap.kill_kset, Int.toNat_natCast, Int.natCast_nonneg, Int.ofNat_lt, Int.ofNat_le, Int.natCast_inj, pmC, pmE, pmS, pmV, pmK, pmQ, pmL, pmX, pmF, pmO, pmA, pmR, pmW, pmB, Option.isSome_some, ft, olds_ints, olds_bools, ↓reduceIte, Nat.reduceEqDiff, reduceCtorEq, Nat.reduceAdd, Nat.reduceMul, Nat.reduceLeDiff, Nat.reduceLT, Int.reduceLE, Int.reduceLT, Int.reduceEq, Int.reduceToNat, Nat.zero_mul, Nat.zero_add, Nat.mul_one, ne_eq, not_false_eq_true, not_true_eq_false, true_and, and_true, decide_true, decide_false, Bool.not_true, Bool.not_false, Bool.false_eq_true, and_self, Nat.add_zero]
      by_cases c : i + 1 < Q.length
      · have by1 := wd.yes (g3 c)
        have vh : IntKind.i64.wrap ((hi9 : Int) - 1) = ((hi9 - 1 : Nat) : Int) := by rw [wrap_in (by omega) (by omega)]; omega
        have gk := getm (PV.int .i64) X (i := hi9 - 1) (by omega)
        have l1 : hi9 - 1 < X.length := by omega
        unfold brkT at by1
        rw [Bool.and_eq_true, decide_eq_true_eq] at by1
        have by2 := by1.1
        generalize X.getD (hi9 - 1) default = c9 at *
        try simp only [s0, s4, s6, s7, hw, c, vh, gk, l1, or_false, false_or, Bool.and_self, Bool.and_true, Bool.true_and, Bool.and_false, Bool.false_and, Bool.not_not, Int.cast_ofNat_Int, beq_self_eq_true, Heap.set_same, Heap.set_set, Heap.kill_kset, Int.toNat_natCast, Int.natCast_nonneg, Int.ofNat_lt, Int.ofNat_le, Int.natCast_inj, pmC, pmE, pmS, pmV, pmK, pmQ, pmL, pmX, pmF, pmO, pmA, pmR, pmW, pmB, Option.isSome_some, ft, olds_ints, olds_bools, ↓reduceIte, Nat.reduceEqDiff, reduceCtorEq, Nat.reduceAdd, Nat.reduceMul, Nat.reduceLeDiff, Nat.reduceLT, Int.reduceLE, Int.reduceLT, Int.reduceEq, Int.reduceToNat, Nat.zero_mul, Nat.zero_add, Nat.mul_one, ne_eq, not_false_eq_true, not_true_eq_false, true_and, and_true, decide_true, decide_false, Bool.not_true, Bool.not_false, Bool.false_eq_true, and_self, Nat.add_zero]
        refine ClassR _ _ ?_
        try simp only [by2, s26, hw, or_false, false_or, Bool.and_self, Bool.and_true, Bool.true_and, Bool.and_false, Bool.false_and, Bool.not_not, Int.cast_ofNat_Int, beq_self_eq_true, Heap.set_same, Heap.set_set, Heap.kill_kset, Int.toNat_natCast, Int.natCast_nonneg, Int.ofNat_lt, Int.ofNat_le, Int.natCast_inj, pmC, pmE, pmS, pmV, pmK, pmQ, pmL, pmX, pmF, pmO, pmA, pmR, pmW, pmB, Option.isSome_some, ft, olds_ints, olds_bools, ↓reduceIte, Nat.reduceEqDiff, reduceCtorEq, Nat.reduceAdd, Nat.reduceMul, Nat.reduceLeDiff, Nat.reduceLT, Int.reduceLE, Int.reduceLT, Int.reduceEq, Int.reduceToNat, Nat.zero_mul, Nat.zero_add, Nat.mul_one, ne_eq, not_false_eq_true, not_true_eq_false, true_and, and_true, decide_true, decide_false, Bool.not_true, Bool.not_false, Bool.false_eq_true, and_self, Nat.add_zero]
        exact next hlt _ _ ⟨lh9, by simp [put, s0], ⟨f4, by simp [put, s4]⟩, ⟨f24, by simp [put, s24]⟩, by simp [put, s25], by simp [put]⟩
      · try simp only [s0, s4, s6, s7, hw, c, s26, or_false, false_or, Bool.and_self, Bool.and_true, Bool.true_and, Bool.and_false, Bool.false_and, Bool.not_not, Int.cast_ofNat_Int, beq_self_eq_true, Heap.set_same, Heap.set_set, Heap.kill_kset, Int.toNat_natCast, Int.natCast_nonneg, Int.ofNat_lt, Int.ofNat_le, Int.natCast_inj, pmC, pmE, pmS, pmV, pmK, pmQ, pmL, pmX, pmF, pmO, pmA, pmR, pmW, pmB, Option.isSome_some, ft, olds_ints, olds_bools, ↓reduceIte, Nat.reduceEqDiff, reduceCtorEq, Nat.reduceAdd, Nat.reduceMul, Nat.reduceLeDiff, Nat.reduceLT, Int.reduceLE, Int.reduceLT, Int.reduceEq, Int.reduceToNat, Nat.zero_mul, Nat.zero_add, Nat.mul_one, ne_eq, not_false_eq_true, not_true_eq_false, true_and, and_true, decide_true, decide_false, Bool.not_true, Bool.not_false, Bool.false_eq_true, and_self, Nat.add_zero]
        exact next hlt _ _ ⟨lh9, by simp [put, s0], ⟨f4, by simp [put, s4]⟩, ⟨f24, by simp [put, s24]⟩, by simp [put, s25], by simp [put]⟩
  · have hnl : ¬ i < Q.length := by omega
    try simp only [s25, s26, hnl, or_false, false_or, Bool.and_self, Bool.and_true, Bool.true_and, Bool.and_false, Bool.false_and, Bool.not_not, Int.cast_ofNat_Int, beq_self_eq_true, Heap.set_same, Heap.set_set, Heap.kill_kset, Int.toNat_natCast, Int.natCast_nonneg, Int.ofNat_lt, Int.ofNat_le, Int.natCast_inj, pmC, pmE, pmS, pmV, pmK, pmQ, pmL, pmX, pmF, pmO, pmA, pmR, pmW, pmB, Option.isSome_some, ft, olds_ints, olds_bools, ↓reduceIte, Nat.reduceEqDiff, reduceCtorEq, Nat.reduceAdd, Nat.reduceMul, Nat.reduceLeDiff, Nat.reduceLT, Int.reduceLE, Int.reduceLT, Int.reduceEq, Int.reduceToNat, Nat.zero_mul, Nat.zero_add, Nat.mul_one, ne_eq, not_false_eq_true, not_true_eq_false, true_and, and_true, decide_true, decide_false, Bool.not_true, Bool.not_false, Bool.false_eq_true, and_self, Nat.add_zero]
    refine awake _ ?_
    try simp only [or_false, false_or, Bool.and_self, Bool.and_true, Bool.true_and, Bool.and_false, Bool.false_and, Bool.not_not, Int.cast_ofNat_Int, beq_self_eq_true, Heap.set_same, Heap.set_set, Heap.kill_kset, Int.toNat_natCast, Int.natCast_nonneg, Int.ofNat_lt, Int.ofNat_le, Int.natCast_inj, pmC, pmE, pmS, pmV, pmK, pmQ, pmL, pmX, pmF, pmO, pmA, pmR, pmW, pmB, Option.isSome_some, ft, olds_ints, olds_bools, ↓reduceIte, Nat.reduceEqDiff, reduceCtorEq, Nat.reduceAdd, Nat.reduceMul, Nat.reduceLeDiff, Nat.reduceLT, Int.reduceLE, Int.reduceLT, Int.reduceEq, Int.reduceToNat, Nat.zero_mul, Nat.zero_add, Nat.mul_one, ne_eq, not_false_eq_true, not_true_eq_false, true_and, and_true, decide_true, decide_false, Bool.not_true, Bool.not_false, Bool.false_eq_true, and_self, Nat.add_zero]
    exact finK_le lh k
def kinds_WrapWide : List AKind := [.row [some .i64] 8]
theorem all_WrapWide (pvs : List PV) (h : IsArgs kinds_WrapWide pvs) : CanP Try.prog 3 pvs Heap.nil (fun v _ => v = .bool true) := by
  obtain ⟨p, r2, rfl, ⟨rows, hr, hz, hl, rfl⟩, rfl⟩ := h
  obtain ⟨l, rfl, hy⟩ := rows_of (fun x => [.int .i64 x]) _ fits_int hr
  rw [flat_ints]
  simp only [List.length_map] at hl hz ⊢
  exact law_WrapWide l (by omega) _ rfl
end Go.Proofs.Ytgmhdkheglnbhaa
