/-
  Tables of codes' values: whether ranges may be, and the block of a part: the package trie.
  Conditions: none but those that each sentence tells.
-/
import Derived.Test.YtjabiegaeflhjaaRng0
namespace Go.Proofs.Ytjabiegaeflhjaa
open Go.Pm
set_option maxRecDepth 100000
set_option linter.unusedSimpArgs false
set_option linter.unusedVariables false

theorem may (fr : Bool) (l : List R3) (ok : mayB (-1) l = true) (hl : l.length ≤ 4096) (h : Heap) {K : PV → Heap → Prop} (k : K (.int .i64 0) h) : CanP Try.prog 34 [.list fr 3 l.length (l.flatMap r3)] h K := by
  refine e34 rfl ?_
  have hn : ¬ (4096 : Int) < l.length := by omega
  try simp only [c34, r34_0, r34_1, r34_2, r34_3, r34_4, r34_5, r34_6, r34_7, r34_8, r34_9, r34_10, r34_11, old_r3, hn, or_false, false_or, Bool.and_self, Bool.and_true, Bool.true_and, Bool.and_false, Bool.false_and, Bool.not_not, Int.cast_ofNat_Int, beq_self_eq_true, Heap.set_same, Heap.set_set, Heap.kill_kset, Int.toNat_natCast, Int.natCast_nonneg, Int.ofNat_lt, Int.ofNat_le, Int.natCast_inj, pmC, pmE, pmS, pmV, pmK, pmQ, pmL, pmX, pmF, pmO, pmA, pmR, pmW, pmB, Option.isSome_some, ft, olds_ints, olds_bools, ↓reduceIte, Nat.reduceEqDiff, reduceCtorEq, Nat.reduceAdd, Nat.reduceMul, Nat.reduceLeDiff, Nat.reduceLT, Int.reduceLE, Int.reduceLT, Int.reduceEq, Int.reduceToNat, Nat.zero_mul, Nat.zero_add, Nat.mul_one, ne_eq, not_false_eq_true, not_true_eq_false, true_and, and_true, decide_true, decide_false, Bool.not_true, Bool.not_false, Bool.false_eq_true, and_self, Nat.add_zero]
  refine pwp_up l.length (fun i σ h' => h' = h ∧ σ 9 = .list false 3 l.length (l.flatMap r3) ∧ σ 10 = .int .i64 l.length ∧ σ 11 = .int .i64 i ∧ ∃ e, σ 3 = .int .i64 e ∧ mayB e (l.drop i) = true) ?_ ?_
  · exact ⟨rfl, rfl, rfl, rfl, -1, rfl, ok⟩
  · rintro i σ h' K' hi ⟨rfl, s9, s10, s11, e, s3, hm⟩ next
    try simp only [s9, s10, s11, cdK_dec, or_false, false_or, Bool.and_self, Bool.and_true, Bool.true_and, Bool.and_false, Bool.false_and, Bool.not_not, Int.cast_ofNat_Int, beq_self_eq_true, Heap.set_same, Heap.set_set, Heap.kill_kset, Int.toNat_natCast, Int.natCast_nonneg, Int.ofNat_lt, Int.ofNat_le, Int.natCast_inj, pmC, pmE, pmS, pmV, pmK, pmQ, pmL, pmX, pmF, pmO, pmA, pmR, pmW, pmB, Option.isSome_some, ft, olds_ints, olds_bools, ↓reduceIte, Nat.reduceEqDiff, reduceCtorEq, Nat.reduceAdd, Nat.reduceMul, Nat.reduceLeDiff, Nat.reduceLT, Int.reduceLE, Int.reduceLT, Int.reduceEq, Int.reduceToNat, Nat.zero_mul, Nat.zero_add, Nat.mul_one, ne_eq, not_false_eq_true, not_true_eq_false, true_and, and_true, decide_true, decide_false, Bool.not_true, Bool.not_false, Bool.false_eq_true, and_self, Nat.add_zero]
    refine ⟨fun hlt => ?_, fun hge => ?_⟩
    · have hx := flat_at r3 3 r3_len l hlt
      have hx2 : i * 3 + 3 ≤ (l.flatMap r3).length := by rw [flat_length r3 3 r3_len]; omega
      rw [drop_getD l hlt] at hm
      generalize l.getD i default = r at *
      simp only [mayB, Bool.and_eq_true, Bool.not_eq_true', decide_eq_false_iff_not] at hm
      obtain ⟨m1, m2, m3, m4⟩ := hm
      try simp only [hx, hx2, hlt, s9, s11, r3, or_false, false_or, Bool.and_self, Bool.and_true, Bool.true_and, Bool.and_false, Bool.false_and, Bool.not_not, Int.cast_ofNat_Int, beq_self_eq_true, Heap.set_same, Heap.set_set, Heap.kill_kset, Int.toNat_natCast, Int.natCast_nonneg, Int.ofNat_lt, Int.ofNat_le, Int.natCast_inj, pmC, pmE, pmS, pmV, pmK, pmQ, pmL, pmX, pmF, pmO, pmA, pmR, pmW, pmB, Option.isSome_some, ft, olds_ints, olds_bools, ↓reduceIte, Nat.reduceEqDiff, reduceCtorEq, Nat.reduceAdd, Nat.reduceMul, Nat.reduceLeDiff, Nat.reduceLT, Int.reduceLE, Int.reduceLT, Int.reduceEq, Int.reduceToNat, Nat.zero_mul, Nat.zero_add, Nat.mul_one, ne_eq, not_false_eq_true, not_true_eq_false, true_and, and_true, decide_true, decide_false, Bool.not_true, Bool.not_false, Bool.false_eq_true, and_self, Nat.add_zero]
      intro b hb
      try simp only [Heap.kill_none hb, s3, s11, m1, m2, m3, or_false, false_or, Bool.and_self, Bool.and_true, Bool.true_and, Bool.and_false, Bool.false_and, Bool.not_not, Int.cast_ofNat_Int, beq_self_eq_true, Heap.set_same, Heap.set_set, Heap.kill_kset, Int.toNat_natCast, Int.natCast_nonneg, Int.ofNat_lt, Int.ofNat_le, Int.natCast_inj, pmC, pmE, pmS, pmV, pmK, pmQ, pmL, pmX, pmF, pmO, pmA, pmR, pmW, pmB, Option.isSome_some, ft, olds_ints, olds_bools, ↓reduceIte, Nat.reduceEqDiff, reduceCtorEq, Nat.reduceAdd, Nat.reduceMul, Nat.reduceLeDiff, Nat.reduceLT, Int.reduceLE, Int.reduceLT, Int.reduceEq, Int.reduceToNat, Nat.zero_mul, Nat.zero_add, Nat.mul_one, ne_eq, not_false_eq_true, not_true_eq_false, true_and, and_true, decide_true, decide_false, Bool.not_true, Bool.not_false, Bool.false_eq_true, and_self, Nat.add_zero]
      rw [wrap_in (by omega) (by omega)]
      exact next hlt _ _ ⟨rfl, by simp [put, s9], by simp [put, s10], by simp [put], r.2.1, by simp [put], m4⟩
    · try simp only [s9, or_false, false_or, Bool.and_self, Bool.and_true, Bool.true_and, Bool.and_false, Bool.false_and, Bool.not_not, Int.cast_ofNat_Int, beq_self_eq_true, Heap.set_same, Heap.set_set, Heap.kill_kset, Int.toNat_natCast, Int.natCast_nonneg, Int.ofNat_lt, Int.ofNat_le, Int.natCast_inj, pmC, pmE, pmS, pmV, pmK, pmQ, pmL, pmX, pmF, pmO, pmA, pmR, pmW, pmB, Option.isSome_some, ft, olds_ints, olds_bools, ↓reduceIte, Nat.reduceEqDiff, reduceCtorEq, Nat.reduceAdd, Nat.reduceMul, Nat.reduceLeDiff, Nat.reduceLT, Int.reduceLE, Int.reduceLT, Int.reduceEq, Int.reduceToNat, Nat.zero_mul, Nat.zero_add, Nat.mul_one, ne_eq, not_false_eq_true, not_true_eq_false, true_and, and_true, decide_true, decide_false, Bool.not_true, Bool.not_false, Bool.false_eq_true, and_self, Nat.add_zero]
      exact finK_le (Heap.le_refl _) k
def blk (g : Nat → Int) : List Int := (List.range 128).map g
theorem blk_len (g : Nat → Int) : (blk g).length = 128 := by simp [blk]
theorem blk_get (g : Nat → Int) {j : Nat} (h : j < 128) : (blk g).getD j default = g j := by simp [blk, List.getD, h]
theorem blk_set (g : Nat → Int) {j : Nat} (h : j < 128) (v : Int) : (blk g).set j v = blk fun i => if i = j then v else g i := by
  apply List.ext_getElem?
  intro k
  simp only [blk, List.getElem?_set, List.length_map, List.length_range, List.getElem?_map, List.getElem?_range]
  by_cases e : j = k
  · subst e; simp [h]
  · by_cases hk : k < 128
    · simp [e, hk, Ne.symm e]
    · simp [e, hk]
theorem blk_congr {g g' : Nat → Int} (h : ∀ j, j < 128 → g j = g' j) : blk g = blk g' := by
  unfold blk; apply List.map_congr_left; intro j hj; exact h j (by simpa using hj)
theorem zero_blk : List.replicate 128 (PV.int .i64 0) = (blk fun _ => 0).map (.int .i64) := by kernel_rfl
theorem blk_cells (g : Nat → Int) : ((blk g).map (PV.int .i64)).length = 128 := by simp [blk]
theorem wr_blk (g g' : Nat → Int) : wr ((blk g).map (PV.int .i64)) 0 ((blk g').map (PV.int .i64)) = (blk g').map (.int .i64) := by
  simp only [wr, List.take_zero, List.nil_append, Nat.zero_add, blk_cells]
  rw [List.drop_of_length_le (by rw [blk_cells]; omega), List.append_nil]
theorem take_blk (g : Nat → Int) : ((blk g).map (PV.int .i64)).take 128 = (blk g).map (.int .i64) := List.take_of_length_le (by rw [blk_cells]; omega)
theorem even (v : Int) (h : Heap) {K : PV → Heap → Prop} (k : K (.agg ((blk fun _ => v).map (.int .i64))) h) : CanP Try.prog 45 [.int .i64 v] h K := by
  refine e45 rfl ?_
  try simp only [c45, r45_0, r45_1, r45_2, r45_3, r45_4, r45_5, r45_6, r45_7, zero_blk, or_false, false_or, Bool.and_self, Bool.and_true, Bool.true_and, Bool.and_false, Bool.false_and, Bool.not_not, Int.cast_ofNat_Int, beq_self_eq_true, Heap.set_same, Heap.set_set, Heap.kill_kset, Int.toNat_natCast, Int.natCast_nonneg, Int.ofNat_lt, Int.ofNat_le, Int.natCast_inj, pmC, pmE, pmS, pmV, pmK, pmQ, pmL, pmX, pmF, pmO, pmA, pmR, pmW, pmB, Option.isSome_some, ft, olds_ints, olds_bools, ↓reduceIte, Nat.reduceEqDiff, reduceCtorEq, Nat.reduceAdd, Nat.reduceMul, Nat.reduceLeDiff, Nat.reduceLT, Int.reduceLE, Int.reduceLT, Int.reduceEq, Int.reduceToNat, Nat.zero_mul, Nat.zero_add, Nat.mul_one, ne_eq, not_false_eq_true, not_true_eq_false, true_and, and_true, decide_true, decide_false, Bool.not_true, Bool.not_false, Bool.false_eq_true, and_self, Nat.add_zero]
  intro b hb b3 hb3
  have hne : b ≠ b3 := fun e => by rw [← e, Heap.set_same] at hb3; cases hb3
  have hb3' : h.f b3 = none := by rwa [Heap.set_ne _ _ (Ne.symm hne)] at hb3
  refine pwp_up 128 (fun i σ h' => Own h h' b ((blk fun _ => 0).map (.int .i64)) ∧ Own h h' b3 ((blk fun j => if j < i then v else 0).map (.int .i64)) ∧ h.le h' ∧ σ 0 = .int .i64 v ∧ σ 2 = .ptr b 0 ∧ σ 3 = .ptr b3 0 ∧ σ 5 = .int .i64 i) ?_ ?_
  · exact ⟨⟨hb, by rw [Heap.set_ne _ _ hne, Heap.set_same]⟩, ⟨hb3', by rw [Heap.set_same]; rfl⟩, Heap.le_set (Heap.le_set (Heap.le_refl _) hb) hb3', rfl, rfl, rfl, rfl⟩
  · rintro i σ h' K' hi ⟨o2, o3, lh, s0, s2, s3, s5⟩ next
    have g2 := o2.2
    have g3 := o3.2
    try simp only [s5, cdK_dec, or_false, false_or, Bool.and_self, Bool.and_true, Bool.true_and, Bool.and_false, Bool.false_and, Bool.not_not, Int.cast_ofNat_Int, beq_self_eq_true, Heap.set_same, Heap.set_set, Heap.kill_kset, Int.toNat_natCast, Int.natCast_nonneg, Int.ofNat_lt, Int.ofNat_le, Int.natCast_inj, pmC, pmE, pmS, pmV, pmK, pmQ, pmL, pmX, pmF, pmO, pmA, pmR, pmW, pmB, Option.isSome_some, ft, olds_ints, olds_bools, ↓reduceIte, Nat.reduceEqDiff, reduceCtorEq, Nat.reduceAdd, Nat.reduceMul, Nat.reduceLeDiff, Nat.reduceLT, Int.reduceLE, Int.reduceLT, Int.reduceEq, Int.reduceToNat, Nat.zero_mul, Nat.zero_add, Nat.mul_one, ne_eq, not_false_eq_true, not_true_eq_false, true_and, and_true, decide_true, decide_false, Bool.not_true, Bool.not_false, Bool.false_eq_true, and_self, Nat.add_zero]
    refine ⟨fun hlt => ?_, fun hge => ?_⟩
    · have hi4 : i < 128 := by omega
      have hi5 : (i : Int) < 128 := by omega
      have hw := fun x => wr_map (PV.int .i64) x (blk fun j => if j < i then v else 0) (i := i) (by rw [blk_len]; omega)
      try simp only [s0, s3, s5, hi4, hi5, Nat.mul_one, g3, blk_cells, hw, or_false, false_or, Bool.and_self, Bool.and_true, Bool.true_and, Bool.and_false, Bool.false_and, Bool.not_not, Int.cast_ofNat_Int, beq_self_eq_true, Heap.set_same, Heap.set_set, Heap.kill_kset, Int.toNat_natCast, Int.natCast_nonneg, Int.ofNat_lt, Int.ofNat_le, Int.natCast_inj, pmC, pmE, pmS, pmV, pmK, pmQ, pmL, pmX, pmF, pmO, pmA, pmR, pmW, pmB, Option.isSome_some, ft, olds_ints, olds_bools, ↓reduceIte, Nat.reduceEqDiff, reduceCtorEq, Nat.reduceAdd, Nat.reduceMul, Nat.reduceLeDiff, Nat.reduceLT, Int.reduceLE, Int.reduceLT, Int.reduceEq, Int.reduceToNat, Nat.zero_mul, Nat.zero_add, Nat.mul_one, ne_eq, not_false_eq_true, not_true_eq_false, true_and, and_true, decide_true, decide_false, Bool.not_true, Bool.not_false, Bool.false_eq_true, and_self, Nat.add_zero]
      refine ⟨by omega, ?_⟩
      rw [wrap_in (by omega) (by omega)]
      refine next hi4 _ _ ⟨o2.other (Ne.symm hne), ?_, o3.le lh, by simp [put, s0], by simp [put, s2], by simp [put, s3], by simp [put]⟩
      rw [blk_set _ hi4]
      have : (blk fun k => if k = i then v else if k < i then v else 0) = blk fun j => if j < i + 1 then v else 0 := blk_congr fun j _ => by
        by_cases e : j = i
        · simp [e]
        · by_cases e2 : j < i
          · simp [e, e2, show j < i + 1 by omega]
          · simp [e, e2, show ¬ j < i + 1 by omega]
      rw [this]; exact o3.set
    · have hi4 : i = 128 := by omega
      subst hi4
      try simp only [s2, s3, g2, g3, blk_cells, take_blk, wr_blk, or_false, false_or, Bool.and_self, Bool.and_true, Bool.true_and, Bool.and_false, Bool.false_and, Bool.not_not, Int.cast_ofNat_Int, beq_self_eq_true, Heap.set_same, Heap.set_set, Heap.kill_kset, Int.toNat_natCast, Int.natCast_nonneg, Int.ofNat_lt, Int.ofNat_le, Int.natCast_inj, pmC, pmE, pmS, pmV, pmK, pmQ, pmL, pmX, pmF, pmO, pmA, pmR, pmW, pmB, Option.isSome_some, ft, olds_ints, olds_bools, ↓reduceIte, Nat.reduceEqDiff, reduceCtorEq, Nat.reduceAdd, Nat.reduceMul, Nat.reduceLeDiff, Nat.reduceLT, Int.reduceLE, Int.reduceLT, Int.reduceEq, Int.reduceToNat, Nat.zero_mul, Nat.zero_add, Nat.mul_one, ne_eq, not_false_eq_true, not_true_eq_false, true_and, and_true, decide_true, decide_false, Bool.not_true, Bool.not_false, Bool.false_eq_true, and_self, Nat.add_zero]
      have : (blk fun j => if j < 128 then v else 0) = blk fun _ => v := blk_congr fun j hj => if_pos hj
      rw [this]
      exact finK_le (o2.le lh) k
/-- The values of a part's codes. -/
def Bk (l : List R3) (n : Int) (p : Nat) : List Int := blk fun j => getR l n ((p : Int) * 128 + j)
theorem filled (fr : Bool) (l : List R3) (ok : mayB (-1) l = true) (hl : l.length ≤ 4096) (p f : Nat) (n : Int) (hp : p < 8704) (hf : f ≤ l.length) (hb : ∀ i, i < f → (l.getD i default).2.1 < (p : Int) * 128) (h : Heap) {K : PV → Heap → Prop}
    (k : ∀ f' : Nat, f' ≤ l.length → (∀ i, i < f' → (l.getD i default).2.1 < ((p : Int) + 1) * 128) → K (.tup [.agg ((Bk l n p).map (.int .i64)), .int .i64 f']) h) :
    CanP Try.prog 35 [.list fr 3 l.length (l.flatMap r3), .int .i64 p, .int .i64 f, .int .i64 n] h K := by
  obtain ⟨ms1, ms2⟩ := may_spec l (-1) ok
  refine e35 rfl ?_
  try simp only [c35, r35_0, r35_1, r35_2, r35_3, r35_4, r35_5, r35_6, r35_7, r35_8, r35_9, r35_10, r35_11, old_r3, zero_blk, or_false, false_or, Bool.and_self, Bool.and_true, Bool.true_and, Bool.and_false, Bool.false_and, Bool.not_not, Int.cast_ofNat_Int, beq_self_eq_true, Heap.set_same, Heap.set_set, Heap.kill_kset, Int.toNat_natCast, Int.natCast_nonneg, Int.ofNat_lt, Int.ofNat_le, Int.natCast_inj, pmC, pmE, pmS, pmV, pmK, pmQ, pmL, pmX, pmF, pmO, pmA, pmR, pmW, pmB, Option.isSome_some, ft, olds_ints, olds_bools, ↓reduceIte, Nat.reduceEqDiff, reduceCtorEq, Nat.reduceAdd, Nat.reduceMul, Nat.reduceLeDiff, Nat.reduceLT, Int.reduceLE, Int.reduceLT, Int.reduceEq, Int.reduceToNat, Nat.zero_mul, Nat.zero_add, Nat.mul_one, ne_eq, not_false_eq_true, not_true_eq_false, true_and, and_true, decide_true, decide_false, Bool.not_true, Bool.not_false, Bool.false_eq_true, and_self, Nat.add_zero]
  intro b8 hb8
  refine even _ _ ?_
  try simp only [zero_blk, blk_cells, wr_blk, Nat.le_refl, or_false, false_or, Bool.and_self, Bool.and_true, Bool.true_and, Bool.and_false, Bool.false_and, Bool.not_not, Int.cast_ofNat_Int, beq_self_eq_true, Heap.set_same, Heap.set_set, Heap.kill_kset, Int.toNat_natCast, Int.natCast_nonneg, Int.ofNat_lt, Int.ofNat_le, Int.natCast_inj, pmC, pmE, pmS, pmV, pmK, pmQ, pmL, pmX, pmF, pmO, pmA, pmR, pmW, pmB, Option.isSome_some, ft, olds_ints, olds_bools, ↓reduceIte, Nat.reduceEqDiff, reduceCtorEq, Nat.reduceAdd, Nat.reduceMul, Nat.reduceLeDiff, Nat.reduceLT, Int.reduceLE, Int.reduceLT, Int.reduceEq, Int.reduceToNat, Nat.zero_mul, Nat.zero_add, Nat.mul_one, ne_eq, not_false_eq_true, not_true_eq_false, true_and, and_true, decide_true, decide_false, Bool.not_true, Bool.not_false, Bool.false_eq_true, and_self, Nat.add_zero]
  intro b10 hb10
  have hne : b8 ≠ b10 := fun e => by rw [← e, Heap.set_same] at hb10; cases hb10
  have hb10' : h.f b10 = none := by rwa [Heap.set_ne _ _ (Ne.symm hne)] at hb10
  have hw : IntKind.i64.wrap ((p : Int) * 128) = (p : Int) * 128 := wrap_in (by omega) (by omega)
  have ha : IntKind.i64.wrap ((p : Int) * 128 + 128) = (p : Int) * 128 + 128 := wrap_in (by omega) (by omega)
  have ha1 : IntKind.i64.wrap ((p : Int) * 128 + 128 - 1) = (p : Int) * 128 + 127 := by rw [wrap_in (by omega) (by omega)]; omega
  try simp only [hw, zero_blk, blk_cells, wr_blk, Nat.le_refl, or_false, false_or, Bool.and_self, Bool.and_true, Bool.true_and, Bool.and_false, Bool.false_and, Bool.not_not, Int.cast_ofNat_Int, beq_self_eq_true, Heap.set_same, Heap.set_set, Heap.kill_kset, Int.toNat_natCast, Int.natCast_nonneg, Int.ofNat_lt, Int.ofNat_le, Int.natCast_inj, pmC, pmE, pmS, pmV, pmK, pmQ, pmL, pmX, pmF, pmO, pmA, pmR, pmW, pmB, Option.isSome_some, ft, olds_ints, olds_bools, ↓reduceIte, Nat.reduceEqDiff, reduceCtorEq, Nat.reduceAdd, Nat.reduceMul, Nat.reduceLeDiff, Nat.reduceLT, Int.reduceLE, Int.reduceLT, Int.reduceEq, Int.reduceToNat, Nat.zero_mul, Nat.zero_add, Nat.mul_one, ne_eq, not_false_eq_true, not_true_eq_false, true_and, and_true, decide_true, decide_false, Bool.not_true, Bool.not_false, Bool.false_eq_true, and_self, Nat.add_zero]
  refine pwp_up (l.length - f) (fun m σ h' => ∃ g : Nat → Int, Own h h' b8 ((blk fun _ => 0).map (.int .i64)) ∧ Own h h' b10 ((blk g).map (.int .i64)) ∧ h.le h' ∧ σ 0 = .list false 3 l.length (l.flatMap r3) ∧ σ 2 = .int .i64 ((f + m : Nat) : Int) ∧ σ 8 = .ptr b8 0 ∧ σ 10 = .ptr b10 0 ∧ σ 11 = .int .i64 ((p : Int) * 128) ∧
    (∀ j, j < 128 → g j = getR (l.take (f + m)) n ((p : Int) * 128 + j)) ∧ ∀ i, i < f + m → (l.getD i default).2.1 < ((p : Int) + 1) * 128) ?_ ?_
  · refine ⟨fun _ => n, ⟨hb8, by rw [Heap.set_ne _ _ hne, Heap.set_same]⟩, ⟨hb10', by rw [Heap.set_same]⟩, Heap.le_set (Heap.le_set (Heap.le_refl _) hb8) hb10', rfl, rfl, rfl, rfl, rfl, fun j hj => ?_, fun i hi => by have := hb i hi; omega⟩
    rw [getR_skip fun r hr => ?_]
    obtain ⟨i, h1, h2⟩ := List.mem_iff_getElem.1 hr
    simp only [List.length_take] at h1
    have := hb i (by omega)
    simp only [List.getElem_take] at h2
    rw [List.getD, List.getElem?_eq_getElem (by omega), Option.getD_some, h2] at this
    omega
  · rintro m σ h' K' hm ⟨g, o8, o10, lh, s0, s2, s8, s10, s11, hg, hbb⟩ next
    have g8 := o8.2
    have g10 := o10.2
    -- what is left when the loop ends at `q`: nothing further meets this part
    have done : ∀ q : Nat, q ≤ l.length → (∀ j, j < 128 → g j = getR (l.take q) n ((p : Int) * 128 + j)) → True := fun _ _ _ => trivial
    have fin2 : ∀ (g' : Nat → Int) (q q' : Nat) (σ' : Sl) (h'' : Heap), q ≤ l.length → q' ≤ l.length → (∀ j, j < 128 → g' j = getR (l.take q) n ((p : Int) * 128 + j)) → (∀ i, q ≤ i → i < l.length → ((p : Int) + 1) * 128 ≤ (l.getD i default).1) →
        (∀ i, i < q' → (l.getD i default).2.1 < ((p : Int) + 1) * 128) → Own h h'' b8 ((blk fun _ => 0).map (.int .i64)) → h.le h'' → finK (.tup [.agg ((blk g').map (.int .i64)), .int .i64 q']) h K (h''.set b8 ((blk g').map (.int .i64))) := fun g' q q' σ' h'' h1 h1' h2 h3 h4 h5 h6 => by
      refine finK_le (h5.le h6) ?_
      have : blk g' = Bk l n p := blk_congr fun j hj => by
        rw [h2 j hj, ← List.take_append_drop q l, List.take_append_drop q l]
        conv => rhs; rw [← List.take_append_drop q l]
        rw [getR_app]
        intro r hr
        obtain ⟨i, q1, q2⟩ := List.mem_iff_getElem.1 hr
        simp only [List.length_drop] at q1
        have := h3 (q + i) (by omega) (by omega)
        simp only [List.getElem_drop] at q2
        rw [List.getD, List.getElem?_eq_getElem (by omega), Option.getD_some, q2] at this
        omega
      rw [this]
      exact k q' h1' h4
    by_cases hlt : f + m < l.length
    · have hx := flat_at r3 3 r3_len l hlt
      have x0 := flat_get r3 3 r3_len l hlt (j := 0) (by omega)
      have hx2 : (f + m) * 3 + 3 ≤ (l.flatMap r3).length := by rw [flat_length r3 3 r3_len]; omega
      rw [Nat.add_zero, show (r3 (l.getD (f + m) default))[0]? = some (PV.int .i64 (l.getD (f + m) default).1) from rfl] at x0
      have m1 := ms1 (f + m) hlt
      have m2 := ms2
      have hlt2 : ((f + m : Nat) : Int) < l.length := by omega
      by_cases hlo : (l.getD (f + m) default).1 < (p : Int) * 128 + 128
      · try simp only [s0, s2, s11, hlt, hlt2, x0, ha, hlo, hx, hx2, r3, or_false, false_or, Bool.and_self, Bool.and_true, Bool.true_and, Bool.and_false, Bool.false_and, Bool.not_not, Int.cast_ofNat_Int, beq_self_eq_true, Heap.set_same, Heap.set_set, Heap.kill_kset, Int.toNat_natCast, Int.natCast_nonneg, Int.ofNat_lt, Int.ofNat_le, Int.natCast_inj, pmC, pmE, pmS, pmV, pmK, pmQ, pmL, pmX, pmF, pmO, pmA, pmR, pmW, pmB, Option.isSome_some, ft, olds_ints, olds_bools, ↓reduceIte, Nat.reduceEqDiff, reduceCtorEq, Nat.reduceAdd, Nat.reduceMul, Nat.reduceLeDiff, Nat.reduceLT, Int.reduceLE, Int.reduceLT, Int.reduceEq, Int.reduceToNat, Nat.zero_mul, Nat.zero_add, Nat.mul_one, ne_eq, not_false_eq_true, not_true_eq_false, true_and, and_true, decide_true, decide_false, Bool.not_true, Bool.not_false, Bool.false_eq_true, and_self, Nat.add_zero]
        intro b12 hb12
        try simp only [Heap.kill_none hb12, or_false, false_or, Bool.and_self, Bool.and_true, Bool.true_and, Bool.and_false, Bool.false_and, Bool.not_not, Int.cast_ofNat_Int, beq_self_eq_true, Heap.set_same, Heap.set_set, Heap.kill_kset, Int.toNat_natCast, Int.natCast_nonneg, Int.ofNat_lt, Int.ofNat_le, Int.natCast_inj, pmC, pmE, pmS, pmV, pmK, pmQ, pmL, pmX, pmF, pmO, pmA, pmR, pmW, pmB, Option.isSome_some, ft, olds_ints, olds_bools, ↓reduceIte, Nat.reduceEqDiff, reduceCtorEq, Nat.reduceAdd, Nat.reduceMul, Nat.reduceLeDiff, Nat.reduceLT, Int.reduceLE, Int.reduceLT, Int.reduceEq, Int.reduceToNat, Nat.zero_mul, Nat.zero_add, Nat.mul_one, ne_eq, not_false_eq_true, not_true_eq_false, true_and, and_true, decide_true, decide_false, Bool.not_true, Bool.not_false, Bool.false_eq_true, and_self, Nat.add_zero]
        generalize hr : l.getD (f + m) default = r at *
        obtain ⟨s, hs⟩ : ∃ s : Int, s = if r.1 < (p : Int) * 128 then (p : Int) * 128 else r.1 := ⟨_, rfl⟩
        obtain ⟨e, he⟩ : ∃ e : Int, e = if (p : Int) * 128 + 127 < r.2.1 then (p : Int) * 128 + 127 else r.2.1 := ⟨_, rfl⟩
        have hs2 : (p : Int) * 128 ≤ s ∧ r.1 ≤ s ∧ (s = (p : Int) * 128 ∨ s = r.1) := by rw [hs]; split <;> omega
        have he2 : e ≤ (p : Int) * 128 + 127 ∧ e ≤ r.2.1 ∧ (e = (p : Int) * 128 + 127 ∨ e = r.2.1) := by rw [he]; split <;> omega
        refine pwp_up (e + 1 - s).toNat (fun q σ' h'' => ∃ g' : Nat → Int, Own h h'' b8 ((blk fun _ => 0).map (.int .i64)) ∧ Own h h'' b10 ((blk g').map (.int .i64)) ∧ h.le h'' ∧ σ' 0 = .list false 3 l.length (l.flatMap r3) ∧ σ' 2 = .int .i64 ((f + m : Nat) : Int) ∧ σ' 8 = .ptr b8 0 ∧ σ' 10 = .ptr b10 0 ∧ σ' 11 = .int .i64 ((p : Int) * 128) ∧ (∃ fr, σ' 12 = .fptr fr [.int .i64 r.1, .int .i64 r.2.1, .int .i64 r.2.2] 0) ∧ σ' 13 = .int .i64 (s + q) ∧
          ∀ j, j < 128 → g' j = if s ≤ (p : Int) * 128 + j ∧ (p : Int) * 128 + j < s + q then r.2.2 else g j) ?_ ?_
        · refine ⟨g, o8, o10, lh, by simp [put, s0], by simp [put, s2], by simp [put, s8], by simp [put, s10], by simp [put, s11], ⟨_, rfl⟩, by rw [hs]; simp [put], fun j hj => ?_⟩
          rw [if_neg (by omega)]
        · rintro q σ' h'' K2 hq ⟨g', t8o, t10o, tlh, t0, t2, t8, t10, t11, ⟨fr', t12⟩, t13, hg'⟩ next2
          have tg10 := t10o.2
          have tg8 := t8o.2
          try simp only [t11, t12, t13, ha, ha1, or_false, false_or, Bool.and_self, Bool.and_true, Bool.true_and, Bool.and_false, Bool.false_and, Bool.not_not, Int.cast_ofNat_Int, beq_self_eq_true, Heap.set_same, Heap.set_set, Heap.kill_kset, Int.toNat_natCast, Int.natCast_nonneg, Int.ofNat_lt, Int.ofNat_le, Int.natCast_inj, pmC, pmE, pmS, pmV, pmK, pmQ, pmL, pmX, pmF, pmO, pmA, pmR, pmW, pmB, Option.isSome_some, ft, olds_ints, olds_bools, ↓reduceIte, Nat.reduceEqDiff, reduceCtorEq, Nat.reduceAdd, Nat.reduceMul, Nat.reduceLeDiff, Nat.reduceLT, Int.reduceLE, Int.reduceLT, Int.reduceEq, Int.reduceToNat, Nat.zero_mul, Nat.zero_add, Nat.mul_one, ne_eq, not_false_eq_true, not_true_eq_false, true_and, and_true, decide_true, decide_false, Bool.not_true, Bool.not_false, Bool.false_eq_true, and_self, Nat.add_zero]
          rw [← he]
          by_cases hqe : s + (q : Int) ≤ e
          · have hsub : IntKind.i64.wrap (s + (q : Int) - (p : Int) * 128) = s + (q : Int) - (p : Int) * 128 := wrap_in (by omega) (by omega)
            obtain ⟨j0, hj0⟩ : ∃ j0 : Nat, (j0 : Int) = s + (q : Int) - (p : Int) * 128 := ⟨(s + (q : Int) - (p : Int) * 128).toNat, by omega⟩
            have hj128 : j0 < 128 := by omega
            have hj128' : (j0 : Int) < 128 := by omega
            have hsub : IntKind.i64.wrap (s + (q : Int) - (p : Int) * 128) = (j0 : Int) := by rw [wrap_in (by omega) (by omega)]; omega
            have hw2 := fun x => wr_map (PV.int .i64) x (blk g') (i := j0) (by rw [blk_len]; omega)
            try simp only [hqe, t10, t11, t12, t13, hsub, hj128, hj128', Nat.mul_one, tg10, blk_cells, hw2, or_false, false_or, Bool.and_self, Bool.and_true, Bool.true_and, Bool.and_false, Bool.false_and, Bool.not_not, Int.cast_ofNat_Int, beq_self_eq_true, Heap.set_same, Heap.set_set, Heap.kill_kset, Int.toNat_natCast, Int.natCast_nonneg, Int.ofNat_lt, Int.ofNat_le, Int.natCast_inj, pmC, pmE, pmS, pmV, pmK, pmQ, pmL, pmX, pmF, pmO, pmA, pmR, pmW, pmB, Option.isSome_some, ft, olds_ints, olds_bools, ↓reduceIte, Nat.reduceEqDiff, reduceCtorEq, Nat.reduceAdd, Nat.reduceMul, Nat.reduceLeDiff, Nat.reduceLT, Int.reduceLE, Int.reduceLT, Int.reduceEq, Int.reduceToNat, Nat.zero_mul, Nat.zero_add, Nat.mul_one, ne_eq, not_false_eq_true, not_true_eq_false, true_and, and_true, decide_true, decide_false, Bool.not_true, Bool.not_false, Bool.false_eq_true, and_self, Nat.add_zero]
            refine ⟨by omega, ?_⟩
            rw [wrap_in (by omega) (by omega)]
            refine next2 (by omega) _ _ ⟨fun i => if i = j0 then r.2.2 else g' i, t8o.other (Ne.symm hne), ?_, t10o.le tlh, by simp [put, t0], by simp [put, t2], by simp [put, t8], by simp [put, t10], by simp [put, t11], ⟨fr', by simp [put, t12]⟩, by simp [put]; omega, fun j hj => ?_⟩
            · rw [blk_set _ hj128]; exact t10o.set
            · dsimp only
              by_cases e1 : j = j0
              · rw [if_pos e1, if_pos (by omega)]
              · rw [if_neg e1, hg' j hj]
                by_cases e2 : s ≤ (p : Int) * 128 + j ∧ (p : Int) * 128 + j < s + q
                · rw [if_pos e2, if_pos (by omega)]
                · rw [if_neg e2, if_neg (by omega)]
          · have hfin : ∀ j, j < 128 → g' j = getR (l.take (f + m + 1)) n ((p : Int) * 128 + j) := fun j hj => by
              rw [hg' j hj, List.take_succ_eq_append_getElem hlt, getR_snoc, hg j hj]
              · have hrr : l[f + m] = r := by rw [← hr]; simp [List.getD, hlt]
                rw [hrr]
                by_cases e2 : r.1 ≤ (p : Int) * 128 + j ∧ (p : Int) * 128 + j ≤ r.2.1
                · rw [if_pos e2, if_pos (by omega)]
                · rw [if_neg e2, if_neg (by omega)]
              · intro q1 q2 x hx
                have hrr : l[f + m] = r := by rw [← hr]; simp [List.getD, hlt]
                rw [hrr] at q1 q2
                obtain ⟨i, h1, h2⟩ := List.mem_iff_getElem.1 hx
                simp only [List.length_take] at h1
                have := m2 i (f + m) (by omega) hlt
                simp only [List.getElem_take] at h2
                rw [hr, List.getD, List.getElem?_eq_getElem (by omega), Option.getD_some, h2] at this
                omega
            try simp only [hqe, t11, t12, ha, or_false, false_or, Bool.and_self, Bool.and_true, Bool.true_and, Bool.and_false, Bool.false_and, Bool.not_not, Int.cast_ofNat_Int, beq_self_eq_true, Heap.set_same, Heap.set_set, Heap.kill_kset, Int.toNat_natCast, Int.natCast_nonneg, Int.ofNat_lt, Int.ofNat_le, Int.natCast_inj, pmC, pmE, pmS, pmV, pmK, pmQ, pmL, pmX, pmF, pmO, pmA, pmR, pmW, pmB, Option.isSome_some, ft, olds_ints, olds_bools, ↓reduceIte, Nat.reduceEqDiff, reduceCtorEq, Nat.reduceAdd, Nat.reduceMul, Nat.reduceLeDiff, Nat.reduceLT, Int.reduceLE, Int.reduceLT, Int.reduceEq, Int.reduceToNat, Nat.zero_mul, Nat.zero_add, Nat.mul_one, ne_eq, not_false_eq_true, not_true_eq_false, true_and, and_true, decide_true, decide_false, Bool.not_true, Bool.not_false, Bool.false_eq_true, and_self, Nat.add_zero]
            by_cases hbr : (p : Int) * 128 + 128 ≤ r.2.1
            · try simp only [hbr, t2, t8, t10, tg10, tg8, blk_cells, take_blk, wr_blk, or_false, false_or, Bool.and_self, Bool.and_true, Bool.true_and, Bool.and_false, Bool.false_and, Bool.not_not, Int.cast_ofNat_Int, beq_self_eq_true, Heap.set_same, Heap.set_set, Heap.kill_kset, Int.toNat_natCast, Int.natCast_nonneg, Int.ofNat_lt, Int.ofNat_le, Int.natCast_inj, pmC, pmE, pmS, pmV, pmK, pmQ, pmL, pmX, pmF, pmO, pmA, pmR, pmW, pmB, Option.isSome_some, ft, olds_ints, olds_bools, ↓reduceIte, Nat.reduceEqDiff, reduceCtorEq, Nat.reduceAdd, Nat.reduceMul, Nat.reduceLeDiff, Nat.reduceLT, Int.reduceLE, Int.reduceLT, Int.reduceEq, Int.reduceToNat, Nat.zero_mul, Nat.zero_add, Nat.mul_one, ne_eq, not_false_eq_true, not_true_eq_false, true_and, and_true, decide_true, decide_false, Bool.not_true, Bool.not_false, Bool.false_eq_true, and_self, Nat.add_zero]
              refine fin2 g' (f + m + 1) (f + m) σ' h'' (by omega) (by omega) hfin (fun i h1 h2 => ?_) hbb t8o tlh
              have := m2 (f + m) i (by omega) h2
              rw [hr] at this; omega
            · try simp only [hbr, t2, or_false, false_or, Bool.and_self, Bool.and_true, Bool.true_and, Bool.and_false, Bool.false_and, Bool.not_not, Int.cast_ofNat_Int, beq_self_eq_true, Heap.set_same, Heap.set_set, Heap.kill_kset, Int.toNat_natCast, Int.natCast_nonneg, Int.ofNat_lt, Int.ofNat_le, Int.natCast_inj, pmC, pmE, pmS, pmV, pmK, pmQ, pmL, pmX, pmF, pmO, pmA, pmR, pmW, pmB, Option.isSome_some, ft, olds_ints, olds_bools, ↓reduceIte, Nat.reduceEqDiff, reduceCtorEq, Nat.reduceAdd, Nat.reduceMul, Nat.reduceLeDiff, Nat.reduceLT, Int.reduceLE, Int.reduceLT, Int.reduceEq, Int.reduceToNat, Nat.zero_mul, Nat.zero_add, Nat.mul_one, ne_eq, not_false_eq_true, not_true_eq_false, true_and, and_true, decide_true, decide_false, Bool.not_true, Bool.not_false, Bool.false_eq_true, and_self, Nat.add_zero]
              rw [wrap_in (by omega) (by omega)]
              refine next (by omega) _ _ ⟨g', t8o, t10o, tlh, by simp [put, t0], by simp [put]; omega, by simp [put, t8], by simp [put, t10], by simp [put, t11], hfin, fun i hi => ?_⟩
              rcases Nat.lt_or_ge i (f + m) with q3 | q3
              · exact hbb i q3
              · have : i = f + m := by omega
                subst this; rw [hr]; omega
      · try simp only [s0, s2, s11, hlt, hlt2, x0, ha, hlo, s8, s10, g10, g8, blk_cells, take_blk, wr_blk, or_false, false_or, Bool.and_self, Bool.and_true, Bool.true_and, Bool.and_false, Bool.false_and, Bool.not_not, Int.cast_ofNat_Int, beq_self_eq_true, Heap.set_same, Heap.set_set, Heap.kill_kset, Int.toNat_natCast, Int.natCast_nonneg, Int.ofNat_lt, Int.ofNat_le, Int.natCast_inj, pmC, pmE, pmS, pmV, pmK, pmQ, pmL, pmX, pmF, pmO, pmA, pmR, pmW, pmB, Option.isSome_some, ft, olds_ints, olds_bools, ↓reduceIte, Nat.reduceEqDiff, reduceCtorEq, Nat.reduceAdd, Nat.reduceMul, Nat.reduceLeDiff, Nat.reduceLT, Int.reduceLE, Int.reduceLT, Int.reduceEq, Int.reduceToNat, Nat.zero_mul, Nat.zero_add, Nat.mul_one, ne_eq, not_false_eq_true, not_true_eq_false, true_and, and_true, decide_true, decide_false, Bool.not_true, Bool.not_false, Bool.false_eq_true, and_self, Nat.add_zero]
        refine fin2 g (f + m) (f + m) σ h' (by omega) (by omega) hg (fun i h1 h2 => ?_) hbb o8 lh
        rcases Nat.lt_or_ge (f + m) i with q | q
        · have := m2 _ _ q h2; omega
        · have : i = f + m := by omega
          subst this; omega
    · have hge : ¬ ((f + m : Nat) : Int) < l.length := by omega
      try simp only [s0, s2, s11, hlt, hge, s8, s10, g10, g8, blk_cells, take_blk, wr_blk, or_false, false_or, Bool.and_self, Bool.and_true, Bool.true_and, Bool.and_false, Bool.false_and, Bool.not_not, Int.cast_ofNat_Int, beq_self_eq_true, Heap.set_same, Heap.set_set, Heap.kill_kset, Int.toNat_natCast, Int.natCast_nonneg, Int.ofNat_lt, Int.ofNat_le, Int.natCast_inj, pmC, pmE, pmS, pmV, pmK, pmQ, pmL, pmX, pmF, pmO, pmA, pmR, pmW, pmB, Option.isSome_some, ft, olds_ints, olds_bools, ↓reduceIte, Nat.reduceEqDiff, reduceCtorEq, Nat.reduceAdd, Nat.reduceMul, Nat.reduceLeDiff, Nat.reduceLT, Int.reduceLE, Int.reduceLT, Int.reduceEq, Int.reduceToNat, Nat.zero_mul, Nat.zero_add, Nat.mul_one, ne_eq, not_false_eq_true, not_true_eq_false, true_and, and_true, decide_true, decide_false, Bool.not_true, Bool.not_false, Bool.false_eq_true, and_self, Nat.add_zero]
      exact fin2 g (f + m) (f + m) σ h' (by omega) (by omega) hg (fun i h1 h2 => by omega) hbb o8 lh
end Go.Proofs.Ytjabiegaeflhjaa
