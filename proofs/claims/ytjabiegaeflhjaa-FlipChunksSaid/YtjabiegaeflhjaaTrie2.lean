/-
  Tables of codes' values: which block a part has, and the table itself: the package trie.
  Conditions: none but those that each sentence tells.
-/
import Derived.Test.YtjabiegaeflhjaaTrie1
namespace Go.Proofs.Ytjabiegaeflhjaa
open Go.Pm
set_option maxRecDepth 100000
set_option linter.unusedSimpArgs false
set_option linter.unusedVariables false

theorem ceq_ints : ∀ (xs ys : List Int), xs.length = ys.length → ceq (xs.map (.int .i64)) (ys.map (.int .i64)) = some (decide (xs = ys))
  | [], [], _ => rfl
  | x :: xs, y :: ys, e => by
    simp only [List.map_cons, ceq, if_true, ceq_ints xs ys (by simpa using e), Option.map_some, List.cons.injEq, Bool.decide_and]
def ci (g : Nat → Int) : List PV := (blk g).map (.int .i64)
theorem ci_len (g : Nat → Int) : (ci g).length = 128 := blk_cells g
theorem old_ci (g : Nat → Int) : olds (ci g) = ci g := by unfold ci; exact olds_ints _
theorem wrz (g : Nat → Int) : wr (List.replicate 128 (PV.int .i64 0)) 0 (ci g) = ci g := by rw [zero_blk]; exact wr_blk _ _
theorem ci_eq (g g' : Nat → Int) : ceq (ci g) (ci g') = some (decide (blk g = blk g')) := ceq_ints _ _ (by rw [blk_len, blk_len])
theorem ci_take (g : Nat → Int) : (ci g).take 128 = ci g := take_blk g
theorem add (g : Nat → Int) (bs : List (Nat → Int)) (hn : bs.length ≤ 100000) (bt : Nat) (fc sc x y : PV) (h0 h : Heap) (ht : h.f bt = some [fc, sc, x, y]) (hbt0 : h0.f bt = none) (ac : Acc h0 h sc 128 bs.length (bs.flatMap ci)) (lh : h0.le h) (hd : blkOf sc ≠ some bt)
    {K : PV → Heap → Prop} (k1 : ∀ i, i < bs.length → blk (bs.getD i default) = blk g → K (.int .i64 i) h)
    (k2 : ∀ v' h'', Acc h0 h'' v' 128 (bs.length + 1) ((bs ++ [g]).flatMap ci) → h0.le h'' → h''.f bt = some [fc, v', x, y] → blkOf v' ≠ some bt → (∀ z cs, h.f z = some cs → z ≠ bt → blkOf sc ≠ some z → h''.f z = some cs ∧ blkOf v' ≠ some z) → K (.int .i64 bs.length) h'') :
    CanP Try.prog 36 [.ptr bt 0, .agg (ci g)] h K := by
  refine e36 rfl ?_
  have hsc : lenK (some 1) sc = fun (K : Kt) (h : Heap) => K (.int .i64 bs.length) h := by
    funext K h
    rcases ac.live with ⟨rfl, e, _⟩ | ⟨b2, rfl, _, _, _⟩
    · simp [lenK, e]
    · simp [lenK]
  have hold : PV.old sc = sc := by
    rcases ac.live with ⟨rfl, e, _⟩ | ⟨b2, rfl, _, _, _⟩ <;> rfl
  have hfl : ∀ v : PV, (v = .nils ∨ ∃ b n, v = .buf b 128 0 n) → flat v = some [v] := fun v e => by
    rcases e with rfl | ⟨b, n, rfl⟩ <;> rfl
  try simp only [c36, r36_0, r36_1, r36_2, r36_3, r36_4, r36_5, r36_6, r36_7, r36_8, old_ci, ht, hsc, hold, or_false, false_or, Bool.and_self, Bool.and_true, Bool.true_and, Bool.and_false, Bool.false_and, Bool.not_not, Int.cast_ofNat_Int, beq_self_eq_true, Heap.set_same, Heap.set_set, Heap.kill_kset, Int.toNat_natCast, Int.natCast_nonneg, Int.ofNat_lt, Int.ofNat_le, Int.natCast_inj, pmC, pmE, pmS, pmV, pmK, pmQ, pmL, pmX, pmF, pmO, pmA, pmR, pmW, pmB, Option.isSome_some, ft, olds_ints, olds_bools, ↓reduceIte, Nat.reduceEqDiff, reduceCtorEq, Nat.reduceAdd, Nat.reduceMul, Nat.reduceLeDiff, Nat.reduceLT, Int.reduceLE, Int.reduceLT, Int.reduceEq, Int.reduceToNat, Nat.zero_mul, Nat.zero_add, Nat.mul_one, ne_eq, not_false_eq_true, not_true_eq_false, true_and, and_true, decide_true, decide_false, Bool.not_true, Bool.not_false, Bool.false_eq_true, and_self, Nat.add_zero]
  refine pwp_up bs.length (fun i σ h' => h' = h ∧ σ 0 = .ptr bt 0 ∧ (∃ fr, σ 3 = .fptr fr (ci g) 0) ∧ σ 10 = .int .i64 bs.length ∧ σ 11 = .int .i64 i) ?_ ?_
  · exact ⟨rfl, rfl, ⟨_, rfl⟩, rfl, rfl⟩
  · rintro i σ h' K' hi ⟨rfl, s0, ⟨fr, s3⟩, s10, s11⟩ next
    try simp only [s10, s11, cdK_dec, or_false, false_or, Bool.and_self, Bool.and_true, Bool.true_and, Bool.and_false, Bool.false_and, Bool.not_not, Int.cast_ofNat_Int, beq_self_eq_true, Heap.set_same, Heap.set_set, Heap.kill_kset, Int.toNat_natCast, Int.natCast_nonneg, Int.ofNat_lt, Int.ofNat_le, Int.natCast_inj, pmC, pmE, pmS, pmV, pmK, pmQ, pmL, pmX, pmF, pmO, pmA, pmR, pmW, pmB, Option.isSome_some, ft, olds_ints, olds_bools, ↓reduceIte, Nat.reduceEqDiff, reduceCtorEq, Nat.reduceAdd, Nat.reduceMul, Nat.reduceLeDiff, Nat.reduceLT, Int.reduceLE, Int.reduceLT, Int.reduceEq, Int.reduceToNat, Nat.zero_mul, Nat.zero_add, Nat.mul_one, ne_eq, not_false_eq_true, not_true_eq_false, true_and, and_true, decide_true, decide_false, Bool.not_true, Bool.not_false, Bool.false_eq_true, and_self, Nat.add_zero]
    refine ⟨fun hlt => ?_, fun hge => ?_⟩
    · rcases ac.live with ⟨rfl, e, _⟩ | ⟨b2, rfl, a1, a2, a3⟩
      · omega
      · have hx := flat_at ci 128 ci_len bs hlt
        have hx2 : i * 128 + 128 ≤ (bs.flatMap ci).length := by rw [flat_length ci 128 ci_len]; omega
        have hk := k1 i hlt
        generalize bs.getD i default = g' at *
        try simp only [s0, s3, s11, ht, a2, hlt, hx, hx2, old_ci, ci_len, ci_take, ci_eq, Option.some.injEq, false_and, or_false, false_or, Bool.and_self, Bool.and_true, Bool.true_and, Bool.and_false, Bool.false_and, Bool.not_not, Int.cast_ofNat_Int, beq_self_eq_true, Heap.set_same, Heap.set_set, Heap.kill_kset, Int.toNat_natCast, Int.natCast_nonneg, Int.ofNat_lt, Int.ofNat_le, Int.natCast_inj, pmC, pmE, pmS, pmV, pmK, pmQ, pmL, pmX, pmF, pmO, pmA, pmR, pmW, pmB, Option.isSome_some, ft, olds_ints, olds_bools, ↓reduceIte, Nat.reduceEqDiff, reduceCtorEq, Nat.reduceAdd, Nat.reduceMul, Nat.reduceLeDiff, Nat.reduceLT, Int.reduceLE, Int.reduceLT, Int.reduceEq, Int.reduceToNat, Nat.zero_mul, Nat.zero_add, Nat.mul_one, ne_eq, not_false_eq_true, not_true_eq_false, true_and, and_true, decide_true, decide_false, Bool.not_true, Bool.not_false, Bool.false_eq_true, and_self, Nat.add_zero]
        by_cases hq : blk g' = blk g
        · have hdd := decide_eq_true hq
          try simp only [hdd, or_false, false_or, Bool.and_self, Bool.and_true, Bool.true_and, Bool.and_false, Bool.false_and, Bool.not_not, Int.cast_ofNat_Int, beq_self_eq_true, Heap.set_same, Heap.set_set, Heap.kill_kset, Int.toNat_natCast, Int.natCast_nonneg, Int.ofNat_lt, Int.ofNat_le, Int.natCast_inj, pmC, pmE, pmS, pmV, pmK, pmQ, pmL, pmX, pmF, pmO, pmA, pmR, pmW, pmB, Option.isSome_some, ft, olds_ints, olds_bools, ↓reduceIte, Nat.reduceEqDiff, reduceCtorEq, Nat.reduceAdd, Nat.reduceMul, Nat.reduceLeDiff, Nat.reduceLT, Int.reduceLE, Int.reduceLT, Int.reduceEq, Int.reduceToNat, Nat.zero_mul, Nat.zero_add, Nat.mul_one, ne_eq, not_false_eq_true, not_true_eq_false, true_and, and_true, decide_true, decide_false, Bool.not_true, Bool.not_false, Bool.false_eq_true, and_self, Nat.add_zero]
          exact finK_rf (hk hq)
        · try simp only [hq, s11, or_false, false_or, Bool.and_self, Bool.and_true, Bool.true_and, Bool.and_false, Bool.false_and, Bool.not_not, Int.cast_ofNat_Int, beq_self_eq_true, Heap.set_same, Heap.set_set, Heap.kill_kset, Int.toNat_natCast, Int.natCast_nonneg, Int.ofNat_lt, Int.ofNat_le, Int.natCast_inj, pmC, pmE, pmS, pmV, pmK, pmQ, pmL, pmX, pmF, pmO, pmA, pmR, pmW, pmB, Option.isSome_some, ft, olds_ints, olds_bools, ↓reduceIte, Nat.reduceEqDiff, reduceCtorEq, Nat.reduceAdd, Nat.reduceMul, Nat.reduceLeDiff, Nat.reduceLT, Int.reduceLE, Int.reduceLT, Int.reduceEq, Int.reduceToNat, Nat.zero_mul, Nat.zero_add, Nat.mul_one, ne_eq, not_false_eq_true, not_true_eq_false, true_and, and_true, decide_true, decide_false, Bool.not_true, Bool.not_false, Bool.false_eq_true, and_self, Nat.add_zero]
          rw [wrap_in (by omega) (by omega)]
          exact next hlt _ _ ⟨rfl, by simp [put, s0], ⟨fr, by simp [put, s3]⟩, by simp [put, s10], by simp [put]⟩
    · try simp only [s0, s3, ht, hold, ci_len, ci_take, Nat.le_refl, List.length_replicate, wrz, Option.map_some, or_false, false_or, Bool.and_self, Bool.and_true, Bool.true_and, Bool.and_false, Bool.false_and, Bool.not_not, Int.cast_ofNat_Int, beq_self_eq_true, Heap.set_same, Heap.set_set, Heap.kill_kset, Int.toNat_natCast, Int.natCast_nonneg, Int.ofNat_lt, Int.ofNat_le, Int.natCast_inj, pmC, pmE, pmS, pmV, pmK, pmQ, pmL, pmX, pmF, pmO, pmA, pmR, pmW, pmB, Option.isSome_some, ft, olds_ints, olds_bools, ↓reduceIte, Nat.reduceEqDiff, reduceCtorEq, Nat.reduceAdd, Nat.reduceMul, Nat.reduceLeDiff, Nat.reduceLT, Int.reduceLE, Int.reduceLT, Int.reduceEq, Int.reduceToNat, Nat.zero_mul, Nat.zero_add, Nat.mul_one, ne_eq, not_false_eq_true, not_true_eq_false, true_and, and_true, decide_true, decide_false, Bool.not_true, Bool.not_false, Bool.false_eq_true, and_self, Nat.add_zero]
      refine ac.app lh (by decide) (by rw [ci_len]) (by omega) (by simp only [maxLen]; omega) fun v' h3 a' l' sd => ?_
      have hbt := sd bt _ ht hd
      obtain ⟨b2, rfl, a1, a2, a3⟩ : ∃ b, v' = .buf b 128 0 (bs.length + 1) ∧ h0.f b = none ∧ h3.f b = some (bs.flatMap ci ++ ci g) ∧ (bs.flatMap ci ++ ci g).length = (bs.length + 1) * 128 := by
        rcases a'.live with ⟨_, e, _⟩ | q
        · omega
        · exact q
      have hb3 := hbt.1
      try simp only [s0, hb3, or_false, false_or, Bool.and_self, Bool.and_true, Bool.true_and, Bool.and_false, Bool.false_and, Bool.not_not, Int.cast_ofNat_Int, beq_self_eq_true, Heap.set_same, Heap.set_set, Heap.kill_kset, Int.toNat_natCast, Int.natCast_nonneg, Int.ofNat_lt, Int.ofNat_le, Int.natCast_inj, pmC, pmE, pmS, pmV, pmK, pmQ, pmL, pmX, pmF, pmO, pmA, pmR, pmW, pmB, Option.isSome_some, ft, olds_ints, olds_bools, ↓reduceIte, Nat.reduceEqDiff, reduceCtorEq, Nat.reduceAdd, Nat.reduceMul, Nat.reduceLeDiff, Nat.reduceLT, Int.reduceLE, Int.reduceLT, Int.reduceEq, Int.reduceToNat, Nat.zero_mul, Nat.zero_add, Nat.mul_one, ne_eq, not_false_eq_true, not_true_eq_false, true_and, and_true, decide_true, decide_false, Bool.not_true, Bool.not_false, Bool.false_eq_true, and_self, Nat.add_zero]
      have hw : IntKind.i64.wrap (((bs.length + 1 : Nat) : Int) - 1) = bs.length := by rw [wrap_in (by omega) (by omega)]; omega
      try simp only [hw, or_false, false_or, Bool.and_self, Bool.and_true, Bool.true_and, Bool.and_false, Bool.false_and, Bool.not_not, Int.cast_ofNat_Int, beq_self_eq_true, Heap.set_same, Heap.set_set, Heap.kill_kset, Int.toNat_natCast, Int.natCast_nonneg, Int.ofNat_lt, Int.ofNat_le, Int.natCast_inj, pmC, pmE, pmS, pmV, pmK, pmQ, pmL, pmX, pmF, pmO, pmA, pmR, pmW, pmB, Option.isSome_some, ft, olds_ints, olds_bools, ↓reduceIte, Nat.reduceEqDiff, reduceCtorEq, Nat.reduceAdd, Nat.reduceMul, Nat.reduceLeDiff, Nat.reduceLT, Int.reduceLE, Int.reduceLT, Int.reduceEq, Int.reduceToNat, Nat.zero_mul, Nat.zero_add, Nat.mul_one, ne_eq, not_false_eq_true, not_true_eq_false, true_and, and_true, decide_true, decide_false, Bool.not_true, Bool.not_false, Bool.false_eq_true, and_self, Nat.add_zero]
      have hne : b2 ≠ bt := fun e => hbt.2 (by rw [e]; rfl)
      refine finK_rf (k2 (.buf b2 128 0 (bs.length + 1)) _ (Acc.set (by simpa using a') (by simp [blkOf]; exact hne)) (Heap.le_set l' hbt0) (Heap.set_same _ _ _) hbt.2 fun z cs hz hzt hzs => ?_)
      have := sd z cs hz hzs
      exact ⟨by rw [Heap.set_ne _ _ hzt]; exact this.1, this.2⟩
end Go.Proofs.Ytjabiegaeflhjaa
