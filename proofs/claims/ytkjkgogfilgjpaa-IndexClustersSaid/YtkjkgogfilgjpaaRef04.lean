/-
  What a map of clusters is, by definition: naskhref04.Check.
  Conditions: none but those that each sentence tells.
-/
import Derived.Test.YtkjkgogfilgjpaaClu1
import Derived.Test.YtkjkgogfilgjpaaSpan2
namespace Go.Proofs.Ytkjkgogfilgjpaa
open Go.Pm
set_option maxRecDepth 100000
set_option linter.unusedSimpArgs false
set_option linter.unusedVariables false

abbrev lo1 : Int × Int → Int := fun x => x.1
theorem slcN_lo0 {k : Option Nat} {E : Nat} {K : Kt} {h : Heap} : slcK k (some E) .nils (some (.int .i64 0)) none K h = K .nils h := by
  have := cut_lo (n := 0) (j := 0) (Nat.le_refl _)
  simp only [slcK, Option.isSome_some, true_and]
  rw [show ((0 : Int)) = ((0 : Nat) : Int) from rfl, ex_cut this]
theorem srt_next (key : Int × Int → Int) (B : List (Int × Int)) {i : Nat} (hi : i < B.length) {k : Nat} (hk : k ≤ i) (h1 : ∀ p, p < k → ¬ key (B.getD i default) < key ((srt key (B.take i)).getD p default))
    (h2 : k = i ∨ key (B.getD i default) < key ((srt key (B.take i)).getD k default)) : srt key (B.take (i + 1)) = (srt key (B.take i)).take k ++ B.getD i default :: (srt key (B.take i)).drop k := by
  have e : B.take (i + 1) = B.take i ++ [B.getD i default] := by
    have := take_succ_map (fun x : Int × Int => x) B hi
    simpa using this
  rw [e]
  have hl : (srt key (B.take i)).length = i := by rw [srt_len, List.length_take]; omega
  have m := mergeR (key := key) (B.getD i default) (srt key (B.take i)) k (srt_srt _) (by omega) (by
    rcases Nat.eq_zero_or_pos k with e | e
    · exact .inl e
    · exact .inr (h1 (k - 1) (by omega))) (by rw [hl]; exact h2)
  exact (srt_of m.1 (((srt_fil _).app (Fil.refl [B.getD i default])).trans m.2)).symm
theorem flat_takeS : ∀ (l : List (Int × Int)) (i : Nat), (l.flatMap sp).take (i * 2) = (l.take i).flatMap sp
  | [], i => by simp
  | x :: l, 0 => by simp
  | x :: l, i + 1 => by
    have ih := flat_takeS l i
    rw [List.flatMap_cons, List.take_succ_cons, List.flatMap_cons, ← ih, show (i + 1) * 2 = (sp x).length + i * 2 by rw [sp_len]; omega, List.take_length_add_append]
theorem sortedR (fr : Bool) (B : List (Int × Int)) (hl : B.length ≤ 1000000) (h : Heap) {K : PV → Heap → Prop} (kn : B = [] → K .nils h) (k : B ≠ [] → K (.list true 2 B.length ((srt lo1 B).flatMap sp)) h) :
    CanP Try.prog 43 [.list fr 2 B.length (B.flatMap sp)] h K := by
  refine e43 rfl ?_
  try simp only [c43, r43_0, r43_1, r43_2, r43_3, r43_4, r43_5, r43_6, r43_7, r43_8, r43_9, old_sp, or_false, false_or, Bool.and_self, Bool.and_true, Bool.true_and, Bool.and_false, Bool.false_and, Bool.not_not, Int.cast_ofNat_Int, beq_self_eq_true, Heap.set_same, Heap.set_set, Heap.kill_kset, Int.toNat_natCast, Int.natCast_nonneg, Int.ofNat_lt, Int.ofNat_le, Int.natCast_inj, pmC, pmE, pmS, pmV, pmK, pmQ, pmL, pmX, pmF, pmO, pmA, pmR, pmW, pmB, Option.isSome_some, ft, olds_ints, olds_bools, ↓reduceIte, Nat.reduceEqDiff, reduceCtorEq, Nat.reduceAdd, Nat.reduceMul, Nat.reduceLeDiff, Nat.reduceLT, Int.reduceLE, Int.reduceLT, Int.reduceEq, Int.reduceToNat, Nat.zero_mul, Nat.zero_add, Nat.mul_one, ne_eq, not_false_eq_true, not_true_eq_false, true_and, and_true, decide_true, decide_false, Bool.not_true, Bool.not_false, Bool.false_eq_true, and_self, Nat.add_zero]
  refine pwp_up B.length (fun i σ h' => Acc h h' (σ 3) 2 i ((srt lo1 (B.take i)).flatMap sp) ∧ (i = 0 → σ 3 = .nils) ∧ h.le h' ∧ σ 0 = .list false 2 B.length (B.flatMap sp) ∧ σ 4 = .int .i64 i) ?_ ?_
  · exact ⟨Acc.nil _ _ _, fun _ => rfl, Heap.le_refl _, rfl, rfl⟩
  rintro i σ h' K' hi ⟨a, hne, lh, s0, s4⟩ next
  rcases Nat.lt_or_ge i B.length with hlt | hge
  · have hw : IntKind.i64.wrap ((i : Int) + 1) = (i : Int) + 1 := wrap_in (by omega) (by omega)
    have hx0 := flat_get sp 2 sp_len B hlt (j := 0) (by omega)
    have hx := flat_at sp 2 sp_len B hlt
    have hx2 : i * 2 + 2 ≤ (B.flatMap sp).length := by rw [flat_length sp 2 sp_len]; omega
    have nxt := fun k => srt_next lo1 B hlt (k := k)
    rw [Nat.add_zero] at hx0
    have hSl : (srt lo1 (B.take i)).length = i := by rw [srt_len, List.length_take]; omega
    rcases a.live with ⟨e3, e0, e4⟩ | ⟨b, e3, hb, hb2, hbl⟩
    · subst e0
      have hlt0 : (0 : Int) < (B.length : Int) := by omega
      try simp only [s0, s4, hlt, hlt0, e3, or_false, false_or, Bool.and_self, Bool.and_true, Bool.true_and, Bool.and_false, Bool.false_and, Bool.not_not, Int.cast_ofNat_Int, beq_self_eq_true, Heap.set_same, Heap.set_set, Heap.kill_kset, Int.toNat_natCast, Int.natCast_nonneg, Int.ofNat_lt, Int.ofNat_le, Int.natCast_inj, pmC, pmE, pmS, pmV, pmK, pmQ, pmL, pmX, pmF, pmO, pmA, pmR, pmW, pmB, Option.isSome_some, ft, olds_ints, olds_bools, ↓reduceIte, Nat.reduceEqDiff, reduceCtorEq, Nat.reduceAdd, Nat.reduceMul, Nat.reduceLeDiff, Nat.reduceLT, Int.reduceLE, Int.reduceLT, Int.reduceEq, Int.reduceToNat, Nat.zero_mul, Nat.zero_add, Nat.mul_one, ne_eq, not_false_eq_true, not_true_eq_false, true_and, and_true, decide_true, decide_false, Bool.not_true, Bool.not_false, Bool.false_eq_true, and_self, Nat.add_zero]
      refine pwp_fall (fun m σ h9 => h9 = h' ∧ σ 0 = .list false 2 B.length (B.flatMap sp) ∧ σ 3 = .nils ∧ σ 4 = .int .i64 (0 : Nat) ∧ σ 5 = .int .i64 0) 0 ⟨rfl, by simp [put, s0], by simp [put, e3], by simp [put, s4], by simp [put]⟩ ?_
      rintro m σ h9 K9 ⟨rfl, s0, s3, s4, s5⟩ -
      have n0 := nxt 0 (Nat.le_refl _) (fun p hp => by omega) (.inl rfl)
      generalize B.getD 0 default = c at *
      have hx00 : (B.flatMap sp).take 2 = [.int .i64 c.1, .int .i64 c.2] := by simpa [sp] using hx
      have hx22 : 2 ≤ (B.flatMap sp).length := by omega
      try simp only [s0, s3, s4, s5, hlt, hlt0, hx00, hx22, slcN_hi, slcN_lo0, or_false, false_or, Bool.and_self, Bool.and_true, Bool.true_and, Bool.and_false, Bool.false_and, Bool.not_not, Int.cast_ofNat_Int, beq_self_eq_true, Heap.set_same, Heap.set_set, Heap.kill_kset, Int.toNat_natCast, Int.natCast_nonneg, Int.ofNat_lt, Int.ofNat_le, Int.natCast_inj, pmC, pmE, pmS, pmV, pmK, pmQ, pmL, pmX, pmF, pmO, pmA, pmR, pmW, pmB, Option.isSome_some, ft, olds_ints, olds_bools, ↓reduceIte, Nat.reduceEqDiff, reduceCtorEq, Nat.reduceAdd, Nat.reduceMul, Nat.reduceLeDiff, Nat.reduceLT, Int.reduceLE, Int.reduceLT, Int.reduceEq, Int.reduceToNat, Nat.zero_mul, Nat.zero_add, Nat.mul_one, ne_eq, not_false_eq_true, not_true_eq_false, true_and, and_true, decide_true, decide_false, Bool.not_true, Bool.not_false, Bool.false_eq_true, and_self, Nat.add_zero]
      refine ⟨by decide, by decide, fun b hb0 => ⟨by decide, fun b2 hb2 => ?_⟩⟩
      have hb2n : h9.f b2 = none := fresh_or hb0 hb2
      rw [Heap.kill_none hb0]
      refine next hlt _ _ ⟨?_, fun e => by omega, ?_, by simp [put, s0], by simp [put, (show IntKind.i64.wrap 1 = 1 by decide)]⟩
      · have a4 : Acc h (h9.set b2 [.int .i64 c.1, .int .i64 c.2]) (.buf b2 2 0 1) 2 1 ((srt lo1 (B.take 1)).flatMap sp) := by
          rw [n0]
          exact Acc.buf (Heap.le_none lh hb2n) (by rw [Heap.set_same]; rfl) rfl
        simpa [put] using a4
      · exact Heap.le_set lh (Heap.le_none lh hb2n)
    · have hJl : i * 2 ≤ ((srt lo1 (B.take i)).flatMap sp).length := by rw [flat_length sp 2 sp_len]; omega
      have hJt : ((srt lo1 (B.take i)).flatMap sp).take (i * 2) = (srt lo1 (B.take i)).flatMap sp := List.take_of_length_le (by rw [flat_length sp 2 sp_len]; omega)
      try simp only [s0, s4, hlt, e3, hb2, hJl, hJt, old_sp, or_false, false_or, Bool.and_self, Bool.and_true, Bool.true_and, Bool.and_false, Bool.false_and, Bool.not_not, Int.cast_ofNat_Int, beq_self_eq_true, Heap.set_same, Heap.set_set, Heap.kill_kset, Int.toNat_natCast, Int.natCast_nonneg, Int.ofNat_lt, Int.ofNat_le, Int.natCast_inj, pmC, pmE, pmS, pmV, pmK, pmQ, pmL, pmX, pmF, pmO, pmA, pmR, pmW, pmB, Option.isSome_some, ft, olds_ints, olds_bools, ↓reduceIte, Nat.reduceEqDiff, reduceCtorEq, Nat.reduceAdd, Nat.reduceMul, Nat.reduceLeDiff, Nat.reduceLT, Int.reduceLE, Int.reduceLT, Int.reduceEq, Int.reduceToNat, Nat.zero_mul, Nat.zero_add, Nat.mul_one, ne_eq, not_false_eq_true, not_true_eq_false, true_and, and_true, decide_true, decide_false, Bool.not_true, Bool.not_false, Bool.false_eq_true, and_self, Nat.add_zero]
      refine pwp_fall (fun m σ h9 => ∃ k : Nat, h9 = h'.kill b ∧ m = i - k ∧ k ≤ i ∧ σ 0 = .list false 2 B.length (B.flatMap sp) ∧ σ 3 = .list false 2 i ((srt lo1 (B.take i)).flatMap sp) ∧ σ 4 = .int .i64 i ∧ σ 5 = .int .i64 k ∧ ∀ p, p < k → ¬ lo1 (B.getD i default) < lo1 ((srt lo1 (B.take i)).getD p default)) i ⟨0, rfl, rfl, by omega, by simp [put, s0], by simp [put], by simp [put, s4], by simp [put], fun p hp => by omega⟩ ?_
      rintro m σ h9 K9 ⟨k9, rfl, rfl, hk9, s0, s3, s4, s5, hi5⟩ wnext
      have lk : h.le (h'.kill b) := Heap.le_kill lh hb
      have ins := nxt k9 hk9 hi5
      generalize hS9 : srt lo1 (B.take i) = S at *
      have hJd : ((S.flatMap sp).drop (k9 * 2)).take ((i - k9) * 2) = (S.flatMap sp).drop (k9 * 2) := List.take_of_length_le (by rw [List.length_drop, flat_length sp 2 sp_len, hSl]; omega)
      by_cases p : k9 < i
      · have hy := flat_get sp 2 sp_len S (i := k9) (by omega) (j := 0) (by omega)
        rw [Nat.add_zero] at hy
        have hkw : IntKind.i64.wrap ((k9 : Int) + 1) = (k9 : Int) + 1 := wrap_in (by omega) (by omega)
        by_cases q : (S.getD k9 default).1 ≤ (B.getD i default).1
        · try simp only [s0, s3, s4, s5, hlt, p, hx0, hy, sp, q, hkw, or_false, false_or, Bool.and_self, Bool.and_true, Bool.true_and, Bool.and_false, Bool.false_and, Bool.not_not, Int.cast_ofNat_Int, beq_self_eq_true, Heap.set_same, Heap.set_set, Heap.kill_kset, Int.toNat_natCast, Int.natCast_nonneg, Int.ofNat_lt, Int.ofNat_le, Int.natCast_inj, pmC, pmE, pmS, pmV, pmK, pmQ, pmL, pmX, pmF, pmO, pmA, pmR, pmW, pmB, Option.isSome_some, ft, olds_ints, olds_bools, ↓reduceIte, Nat.reduceEqDiff, reduceCtorEq, Nat.reduceAdd, Nat.reduceMul, Nat.reduceLeDiff, Nat.reduceLT, Int.reduceLE, Int.reduceLT, Int.reduceEq, Int.reduceToNat, Nat.zero_mul, Nat.zero_add, Nat.mul_one, ne_eq, not_false_eq_true, not_true_eq_false, true_and, and_true, decide_true, decide_false, Bool.not_true, Bool.not_false, Bool.false_eq_true, and_self, Nat.add_zero]
          refine wnext (i - (k9 + 1)) _ _ (by omega) ⟨k9 + 1, rfl, rfl, by omega, by simp [put, s0], by simp [put], by simp [put, s4], by simp [put], fun p h1 => ?_⟩
          rcases Nat.lt_or_ge p k9 with e | e
          · exact hi5 p e
          · have : p = k9 := by omega
            rw [this]; simpa [lo1] using q
        · try simp only [s0, s3, s4, s5, hlt, p, hx0, hy, sp, q, slcL_hi hk9, or_false, false_or, Bool.and_self, Bool.and_true, Bool.true_and, Bool.and_false, Bool.false_and, Bool.not_not, Int.cast_ofNat_Int, beq_self_eq_true, Heap.set_same, Heap.set_set, Heap.kill_kset, Int.toNat_natCast, Int.natCast_nonneg, Int.ofNat_lt, Int.ofNat_le, Int.natCast_inj, pmC, pmE, pmS, pmV, pmK, pmQ, pmL, pmX, pmF, pmO, pmA, pmR, pmW, pmB, Option.isSome_some, ft, olds_ints, olds_bools, ↓reduceIte, Nat.reduceEqDiff, reduceCtorEq, Nat.reduceAdd, Nat.reduceMul, Nat.reduceLeDiff, Nat.reduceLT, Int.reduceLE, Int.reduceLT, Int.reduceEq, Int.reduceToNat, Nat.zero_mul, Nat.zero_add, Nat.mul_one, ne_eq, not_false_eq_true, not_true_eq_false, true_and, and_true, decide_true, decide_false, Bool.not_true, Bool.not_false, Bool.false_eq_true, and_self, Nat.add_zero]
          refine (Acc.nil h (h'.kill b) 2).appA (m := k9) lk (by rw [List.length_take, flat_length sp 2 sp_len, hSl]; omega) (by omega) (by simp only [maxLen]; omega) fun v1 h1 a1 l1 sd1 => ?_
          try simp only [s0, s4, hx, hx2, hlt, sp, or_false, false_or, Bool.and_self, Bool.and_true, Bool.true_and, Bool.and_false, Bool.false_and, Bool.not_not, Int.cast_ofNat_Int, beq_self_eq_true, Heap.set_same, Heap.set_set, Heap.kill_kset, Int.toNat_natCast, Int.natCast_nonneg, Int.ofNat_lt, Int.ofNat_le, Int.natCast_inj, pmC, pmE, pmS, pmV, pmK, pmQ, pmL, pmX, pmF, pmO, pmA, pmR, pmW, pmB, Option.isSome_some, ft, olds_ints, olds_bools, ↓reduceIte, Nat.reduceEqDiff, reduceCtorEq, Nat.reduceAdd, Nat.reduceMul, Nat.reduceLeDiff, Nat.reduceLT, Int.reduceLE, Int.reduceLT, Int.reduceEq, Int.reduceToNat, Nat.zero_mul, Nat.zero_add, Nat.mul_one, ne_eq, not_false_eq_true, not_true_eq_false, true_and, and_true, decide_true, decide_false, Bool.not_true, Bool.not_false, Bool.false_eq_true, and_self, Nat.add_zero]
          refine a1.app l1 (by decide) rfl (by omega) (by simp only [maxLen]; omega) fun v2 h2 a2 l2 sd2 => ?_
          try simp only [s3, s5, slcL_lo hk9, or_false, false_or, Bool.and_self, Bool.and_true, Bool.true_and, Bool.and_false, Bool.false_and, Bool.not_not, Int.cast_ofNat_Int, beq_self_eq_true, Heap.set_same, Heap.set_set, Heap.kill_kset, Int.toNat_natCast, Int.natCast_nonneg, Int.ofNat_lt, Int.ofNat_le, Int.natCast_inj, pmC, pmE, pmS, pmV, pmK, pmQ, pmL, pmX, pmF, pmO, pmA, pmR, pmW, pmB, Option.isSome_some, ft, olds_ints, olds_bools, ↓reduceIte, Nat.reduceEqDiff, reduceCtorEq, Nat.reduceAdd, Nat.reduceMul, Nat.reduceLeDiff, Nat.reduceLT, Int.reduceLE, Int.reduceLT, Int.reduceEq, Int.reduceToNat, Nat.zero_mul, Nat.zero_add, Nat.mul_one, ne_eq, not_false_eq_true, not_true_eq_false, true_and, and_true, decide_true, decide_false, Bool.not_true, Bool.not_false, Bool.false_eq_true, and_self, Nat.add_zero]
          refine a2.appA l2 (by rw [List.length_take, List.length_drop, flat_length sp 2 sp_len, hSl]; omega) (by omega) (by simp only [maxLen]; omega) fun v3 h3 a3 l3 sd3 => ?_
          try simp only [s4, hw, or_false, false_or, Bool.and_self, Bool.and_true, Bool.true_and, Bool.and_false, Bool.false_and, Bool.not_not, Int.cast_ofNat_Int, beq_self_eq_true, Heap.set_same, Heap.set_set, Heap.kill_kset, Int.toNat_natCast, Int.natCast_nonneg, Int.ofNat_lt, Int.ofNat_le, Int.natCast_inj, pmC, pmE, pmS, pmV, pmK, pmQ, pmL, pmX, pmF, pmO, pmA, pmR, pmW, pmB, Option.isSome_some, ft, olds_ints, olds_bools, ↓reduceIte, Nat.reduceEqDiff, reduceCtorEq, Nat.reduceAdd, Nat.reduceMul, Nat.reduceLeDiff, Nat.reduceLT, Int.reduceLE, Int.reduceLT, Int.reduceEq, Int.reduceToNat, Nat.zero_mul, Nat.zero_add, Nat.mul_one, ne_eq, not_false_eq_true, not_true_eq_false, true_and, and_true, decide_true, decide_false, Bool.not_true, Bool.not_false, Bool.false_eq_true, and_self, Nat.add_zero]
          rw [show 0 + k9 + 1 + (i - k9) = i + 1 by omega] at a3
          have eJ := ins (.inr (by simpa [lo1] using q))
          refine next hlt _ _ ⟨?_, fun e => by omega, l3, by simp [put, s0], by simp [put]⟩
          have a4 : Acc h h3 v3 2 (i + 1) ((srt lo1 (B.take (i + 1))).flatMap sp) := by
            rw [eJ, List.flatMap_append, List.flatMap_cons, ← flat_takeS, ← flat_drop sp 2 sp_len, ← hJd]
            simpa [sp] using a3
          simpa [put] using a4
      · try simp only [s0, s3, s4, s5, hlt, p, slcL_hi hk9, or_false, false_or, Bool.and_self, Bool.and_true, Bool.true_and, Bool.and_false, Bool.false_and, Bool.not_not, Int.cast_ofNat_Int, beq_self_eq_true, Heap.set_same, Heap.set_set, Heap.kill_kset, Int.toNat_natCast, Int.natCast_nonneg, Int.ofNat_lt, Int.ofNat_le, Int.natCast_inj, pmC, pmE, pmS, pmV, pmK, pmQ, pmL, pmX, pmF, pmO, pmA, pmR, pmW, pmB, Option.isSome_some, ft, olds_ints, olds_bools, ↓reduceIte, Nat.reduceEqDiff, reduceCtorEq, Nat.reduceAdd, Nat.reduceMul, Nat.reduceLeDiff, Nat.reduceLT, Int.reduceLE, Int.reduceLT, Int.reduceEq, Int.reduceToNat, Nat.zero_mul, Nat.zero_add, Nat.mul_one, ne_eq, not_false_eq_true, not_true_eq_false, true_and, and_true, decide_true, decide_false, Bool.not_true, Bool.not_false, Bool.false_eq_true, and_self, Nat.add_zero]
        refine (Acc.nil h (h'.kill b) 2).appA (m := k9) lk (by rw [List.length_take, flat_length sp 2 sp_len, hSl]; omega) (by omega) (by simp only [maxLen]; omega) fun v1 h1 a1 l1 sd1 => ?_
        try simp only [s0, s4, hx, hx2, hlt, sp, or_false, false_or, Bool.and_self, Bool.and_true, Bool.true_and, Bool.and_false, Bool.false_and, Bool.not_not, Int.cast_ofNat_Int, beq_self_eq_true, Heap.set_same, Heap.set_set, Heap.kill_kset, Int.toNat_natCast, Int.natCast_nonneg, Int.ofNat_lt, Int.ofNat_le, Int.natCast_inj, pmC, pmE, pmS, pmV, pmK, pmQ, pmL, pmX, pmF, pmO, pmA, pmR, pmW, pmB, Option.isSome_some, ft, olds_ints, olds_bools, ↓reduceIte, Nat.reduceEqDiff, reduceCtorEq, Nat.reduceAdd, Nat.reduceMul, Nat.reduceLeDiff, Nat.reduceLT, Int.reduceLE, Int.reduceLT, Int.reduceEq, Int.reduceToNat, Nat.zero_mul, Nat.zero_add, Nat.mul_one, ne_eq, not_false_eq_true, not_true_eq_false, true_and, and_true, decide_true, decide_false, Bool.not_true, Bool.not_false, Bool.false_eq_true, and_self, Nat.add_zero]
        refine a1.app l1 (by decide) rfl (by omega) (by simp only [maxLen]; omega) fun v2 h2 a2 l2 sd2 => ?_
        try simp only [s3, s5, slcL_lo hk9, or_false, false_or, Bool.and_self, Bool.and_true, Bool.true_and, Bool.and_false, Bool.false_and, Bool.not_not, Int.cast_ofNat_Int, beq_self_eq_true, Heap.set_same, Heap.set_set, Heap.kill_kset, Int.toNat_natCast, Int.natCast_nonneg, Int.ofNat_lt, Int.ofNat_le, Int.natCast_inj, pmC, pmE, pmS, pmV, pmK, pmQ, pmL, pmX, pmF, pmO, pmA, pmR, pmW, pmB, Option.isSome_some, ft, olds_ints, olds_bools, ↓reduceIte, Nat.reduceEqDiff, reduceCtorEq, Nat.reduceAdd, Nat.reduceMul, Nat.reduceLeDiff, Nat.reduceLT, Int.reduceLE, Int.reduceLT, Int.reduceEq, Int.reduceToNat, Nat.zero_mul, Nat.zero_add, Nat.mul_one, ne_eq, not_false_eq_true, not_true_eq_false, true_and, and_true, decide_true, decide_false, Bool.not_true, Bool.not_false, Bool.false_eq_true, and_self, Nat.add_zero]
        refine a2.appA l2 (by rw [List.length_take, List.length_drop, flat_length sp 2 sp_len, hSl]; omega) (by omega) (by simp only [maxLen]; omega) fun v3 h3 a3 l3 sd3 => ?_
        try simp only [s4, hw, or_false, false_or, Bool.and_self, Bool.and_true, Bool.true_and, Bool.and_false, Bool.false_and, Bool.not_not, Int.cast_ofNat_Int, beq_self_eq_true, Heap.set_same, Heap.set_set, Heap.kill_kset, Int.toNat_natCast, Int.natCast_nonneg, Int.ofNat_lt, Int.ofNat_le, Int.natCast_inj, pmC, pmE, pmS, pmV, pmK, pmQ, pmL, pmX, pmF, pmO, pmA, pmR, pmW, pmB, Option.isSome_some, ft, olds_ints, olds_bools, ↓reduceIte, Nat.reduceEqDiff, reduceCtorEq, Nat.reduceAdd, Nat.reduceMul, Nat.reduceLeDiff, Nat.reduceLT, Int.reduceLE, Int.reduceLT, Int.reduceEq, Int.reduceToNat, Nat.zero_mul, Nat.zero_add, Nat.mul_one, ne_eq, not_false_eq_true, not_true_eq_false, true_and, and_true, decide_true, decide_false, Bool.not_true, Bool.not_false, Bool.false_eq_true, and_self, Nat.add_zero]
        rw [show 0 + k9 + 1 + (i - k9) = i + 1 by omega] at a3
        have eJ := ins (.inl (by omega))
        refine next hlt _ _ ⟨?_, fun e => by omega, l3, by simp [put, s0], by simp [put]⟩
        have a4 : Acc h h3 v3 2 (i + 1) ((srt lo1 (B.take (i + 1))).flatMap sp) := by
          rw [eJ, List.flatMap_append, List.flatMap_cons, ← flat_takeS, ← flat_drop sp 2 sp_len, ← hJd]
          simpa [sp] using a3
        simpa [put] using a4
  · have e : i = B.length := by omega
    subst e
    have hnl := Nat.lt_irrefl B.length
    try simp only [s0, s4, hnl, or_false, false_or, Bool.and_self, Bool.and_true, Bool.true_and, Bool.and_false, Bool.false_and, Bool.not_not, Int.cast_ofNat_Int, beq_self_eq_true, Heap.set_same, Heap.set_set, Heap.kill_kset, Int.toNat_natCast, Int.natCast_nonneg, Int.ofNat_lt, Int.ofNat_le, Int.natCast_inj, pmC, pmE, pmS, pmV, pmK, pmQ, pmL, pmX, pmF, pmO, pmA, pmR, pmW, pmB, Option.isSome_some, ft, olds_ints, olds_bools, ↓reduceIte, Nat.reduceEqDiff, reduceCtorEq, Nat.reduceAdd, Nat.reduceMul, Nat.reduceLeDiff, Nat.reduceLT, Int.reduceLE, Int.reduceLT, Int.reduceEq, Int.reduceToNat, Nat.zero_mul, Nat.zero_add, Nat.mul_one, ne_eq, not_false_eq_true, not_true_eq_false, true_and, and_true, decide_true, decide_false, Bool.not_true, Bool.not_false, Bool.false_eq_true, and_self, Nat.add_zero]
    rcases a with ⟨e3, e0, e4⟩ | ⟨b, e3, hb, hb2, hbl⟩
    · rw [e3]
      have h0 : B = [] := List.length_eq_zero_iff.1 e0
      exact finK_wk (Wk.drop _ lh) (kn h0)
    · have h0 : B ≠ [] := fun e0 => by
        have := hne (by rw [e0]; rfl)
        rw [e3] at this; cases this
      rw [e3]
      refine (Acc.buf hb hb2 hbl).fin lh ?_
      rw [List.take_length, old_sp]
      exact k h0
theorem sortedN (h : Heap) {K : PV → Heap → Prop} (k : K .nils h) : CanP Try.prog 43 [.nils] h K := by
  refine e43 rfl ?_
  try simp only [c43, r43_0, r43_1, r43_2, r43_3, r43_4, r43_5, r43_6, r43_7, r43_8, r43_9, or_false, false_or, Bool.and_self, Bool.and_true, Bool.true_and, Bool.and_false, Bool.false_and, Bool.not_not, Int.cast_ofNat_Int, beq_self_eq_true, Heap.set_same, Heap.set_set, Heap.kill_kset, Int.toNat_natCast, Int.natCast_nonneg, Int.ofNat_lt, Int.ofNat_le, Int.natCast_inj, pmC, pmE, pmS, pmV, pmK, pmQ, pmL, pmX, pmF, pmO, pmA, pmR, pmW, pmB, Option.isSome_some, ft, olds_ints, olds_bools, ↓reduceIte, Nat.reduceEqDiff, reduceCtorEq, Nat.reduceAdd, Nat.reduceMul, Nat.reduceLeDiff, Nat.reduceLT, Int.reduceLE, Int.reduceLT, Int.reduceEq, Int.reduceToNat, Nat.zero_mul, Nat.zero_add, Nat.mul_one, ne_eq, not_false_eq_true, not_true_eq_false, true_and, and_true, decide_true, decide_false, Bool.not_true, Bool.not_false, Bool.false_eq_true, and_self, Nat.add_zero]
  refine pwp_fall (fun m σ h9 => h9 = h ∧ σ 0 = .nils ∧ σ 3 = .nils ∧ σ 4 = .int .i64 0) 0 ⟨rfl, rfl, rfl, rfl⟩ ?_
  rintro m σ h9 K9 ⟨rfl, s0, s3, s4⟩ -
  try simp only [s0, s3, s4, or_false, false_or, Bool.and_self, Bool.and_true, Bool.true_and, Bool.and_false, Bool.false_and, Bool.not_not, Int.cast_ofNat_Int, beq_self_eq_true, Heap.set_same, Heap.set_set, Heap.kill_kset, Int.toNat_natCast, Int.natCast_nonneg, Int.ofNat_lt, Int.ofNat_le, Int.natCast_inj, pmC, pmE, pmS, pmV, pmK, pmQ, pmL, pmX, pmF, pmO, pmA, pmR, pmW, pmB, Option.isSome_some, ft, olds_ints, olds_bools, ↓reduceIte, Nat.reduceEqDiff, reduceCtorEq, Nat.reduceAdd, Nat.reduceMul, Nat.reduceLeDiff, Nat.reduceLT, Int.reduceLE, Int.reduceLT, Int.reduceEq, Int.reduceToNat, Nat.zero_mul, Nat.zero_add, Nat.mul_one, ne_eq, not_false_eq_true, not_true_eq_false, true_and, and_true, decide_true, decide_false, Bool.not_true, Bool.not_false, Bool.false_eq_true, and_self, Nat.add_zero]
  exact finK_le (Heap.le_refl _) k
theorem PartsN (n : Int) (h : Heap) {K : PV → Heap → Prop} (k : K (.bool (decide (0 = n))) h) : CanP Try.prog 42 [.nils, .int .i64 n] h K := by
  refine e42 rfl ?_
  try simp only [c42, r42_0, r42_1, r42_2, r42_3, r42_4, r42_5, r42_6, r42_7, r42_8, or_false, false_or, Bool.and_self, Bool.and_true, Bool.true_and, Bool.and_false, Bool.false_and, Bool.not_not, Int.cast_ofNat_Int, beq_self_eq_true, Heap.set_same, Heap.set_set, Heap.kill_kset, Int.toNat_natCast, Int.natCast_nonneg, Int.ofNat_lt, Int.ofNat_le, Int.natCast_inj, pmC, pmE, pmS, pmV, pmK, pmQ, pmL, pmX, pmF, pmO, pmA, pmR, pmW, pmB, Option.isSome_some, ft, olds_ints, olds_bools, ↓reduceIte, Nat.reduceEqDiff, reduceCtorEq, Nat.reduceAdd, Nat.reduceMul, Nat.reduceLeDiff, Nat.reduceLT, Int.reduceLE, Int.reduceLT, Int.reduceEq, Int.reduceToNat, Nat.zero_mul, Nat.zero_add, Nat.mul_one, ne_eq, not_false_eq_true, not_true_eq_false, true_and, and_true, decide_true, decide_false, Bool.not_true, Bool.not_false, Bool.false_eq_true, and_self, Nat.add_zero]
  refine pwp_fall (fun m σ h9 => h9 = h ∧ σ 0 = .nils ∧ σ 1 = .int .i64 n ∧ σ 5 = .int .i64 0 ∧ σ 6 = .int .i64 0) 0 ⟨rfl, rfl, rfl, rfl, rfl⟩ ?_
  rintro m σ h9 K9 ⟨rfl, s0, s1, s5, s6⟩ -
  try simp only [s0, s1, s5, s6, or_false, false_or, Bool.and_self, Bool.and_true, Bool.true_and, Bool.and_false, Bool.false_and, Bool.not_not, Int.cast_ofNat_Int, beq_self_eq_true, Heap.set_same, Heap.set_set, Heap.kill_kset, Int.toNat_natCast, Int.natCast_nonneg, Int.ofNat_lt, Int.ofNat_le, Int.natCast_inj, pmC, pmE, pmS, pmV, pmK, pmQ, pmL, pmX, pmF, pmO, pmA, pmR, pmW, pmB, Option.isSome_some, ft, olds_ints, olds_bools, ↓reduceIte, Nat.reduceEqDiff, reduceCtorEq, Nat.reduceAdd, Nat.reduceMul, Nat.reduceLeDiff, Nat.reduceLT, Int.reduceLE, Int.reduceLT, Int.reduceEq, Int.reduceToNat, Nat.zero_mul, Nat.zero_add, Nat.mul_one, ne_eq, not_false_eq_true, not_true_eq_false, true_and, and_true, decide_true, decide_false, Bool.not_true, Bool.not_false, Bool.false_eq_true, and_self, Nat.add_zero]
  exact finK_le (Heap.le_refl _) k
theorem CheckR (fr : Bool) (l : List C4) (hl : l.length ≤ 1000000) (n m : Int) (h : Heap) {K : PV → Heap → Prop} (k : K (.bool (mapB l n m)) h) : CanP Try.prog 34 [.list fr 4 l.length (l.flatMap clu), .int .i64 n, .int .i64 m] h K := by
  refine e34 rfl ?_
  try simp only [c34, r34_0, r34_1, r34_2, r34_3, r34_4, r34_5, r34_6, old_clu, or_false, false_or, Bool.and_self, Bool.and_true, Bool.true_and, Bool.and_false, Bool.false_and, Bool.not_not, Int.cast_ofNat_Int, beq_self_eq_true, Heap.set_same, Heap.set_set, Heap.kill_kset, Int.toNat_natCast, Int.natCast_nonneg, Int.ofNat_lt, Int.ofNat_le, Int.natCast_inj, pmC, pmE, pmS, pmV, pmK, pmQ, pmL, pmX, pmF, pmO, pmA, pmR, pmW, pmB, Option.isSome_some, ft, olds_ints, olds_bools, ↓reduceIte, Nat.reduceEqDiff, reduceCtorEq, Nat.reduceAdd, Nat.reduceMul, Nat.reduceLeDiff, Nat.reduceLT, Int.reduceLE, Int.reduceLT, Int.reduceEq, Int.reduceToNat, Nat.zero_mul, Nat.zero_add, Nat.mul_one, ne_eq, not_false_eq_true, not_true_eq_false, true_and, and_true, decide_true, decide_false, Bool.not_true, Bool.not_false, Bool.false_eq_true, and_self, Nat.add_zero]
  refine pwp_up l.length (fun i σ h' => Acc h h' (σ 7) 2 i (((l.take i).map (·.1)).flatMap sp) ∧ Acc h h' (σ 8) 2 i (((l.take i).map (·.2)).flatMap sp) ∧ (∀ b, blkOf (σ 8) = some b → blkOf (σ 7) ≠ some b) ∧ (i = 0 → σ 7 = .nils ∧ σ 8 = .nils) ∧ h.le h' ∧ σ 0 = .list false 4 l.length (l.flatMap clu) ∧ σ 1 = .int .i64 n ∧ σ 2 = .int .i64 m ∧ σ 9 = .int .i64 i) ?_ ?_
  · exact ⟨Acc.nil _ _ _, Acc.nil _ _ _, fun b (e : none = some b) => by (cases e), fun _ => ⟨rfl, rfl⟩, Heap.le_refl _, rfl, rfl, rfl, rfl⟩
  · rintro i σ h' K' hi ⟨a4, a5, d1, hne, lh, s0, s1, s2, s9⟩ next
    rcases Nat.lt_or_ge i l.length with hlt | hge
    · have hx := flat_at clu 4 clu_len l hlt
      have x0 := flat_get clu 4 clu_len l hlt (j := 0) (by omega)
      have x1 := flat_get clu 4 clu_len l hlt (j := 1) (by omega)
      have x2 := flat_get clu 4 clu_len l hlt (j := 2) (by omega)
      have x3 := flat_get clu 4 clu_len l hlt (j := 3) (by omega)
      rw [Nat.add_zero] at x0
      have hx2 : i * 4 + 4 ≤ (l.flatMap clu).length := by rw [flat_length clu 4 clu_len]; omega
      have hx3 : i * 4 + 2 ≤ (l.flatMap clu).length := by omega
      have hx4 : i * 4 + 2 + 2 ≤ (l.flatMap clu).length := by omega
      have t1 : ((l.take (i + 1)).map (·.1)).flatMap sp = ((l.take i).map (·.1)).flatMap sp ++ sp (l.getD i default).1 := by
        rw [take_succ_map (fun x : C4 => x.1) l hlt, List.flatMap_append]; simp
      have t2 : ((l.take (i + 1)).map (·.2)).flatMap sp = ((l.take i).map (·.2)).flatMap sp ++ sp (l.getD i default).2 := by
        rw [take_succ_map (fun x : C4 => x.2) l hlt, List.flatMap_append]; simp
      generalize l.getD i default = x at *
      have hy1 : ((l.flatMap clu).drop (i * 4)).take 2 = [.int .i64 x.1.1, .int .i64 x.1.2] := by
        have e := congrArg (List.take 2) hx
        simpa [List.take_take, clu] using e
      have hy2 : ((l.flatMap clu).drop (i * 4 + 2)).take 2 = [.int .i64 x.2.1, .int .i64 x.2.2] := by
        have e := congrArg (List.drop 2) hx
        rw [List.drop_take, List.drop_drop] at e
        simpa [clu] using e
      have hw : IntKind.i64.wrap ((i : Int) + 1) = (i : Int) + 1 := wrap_in (by omega) (by omega)
      try simp only [s0, s9, hlt, hy1, hy2, hx3, hx4, hx2, or_false, false_or, Bool.and_self, Bool.and_true, Bool.true_and, Bool.and_false, Bool.false_and, Bool.not_not, Int.cast_ofNat_Int, beq_self_eq_true, Heap.set_same, Heap.set_set, Heap.kill_kset, Int.toNat_natCast, Int.natCast_nonneg, Int.ofNat_lt, Int.ofNat_le, Int.natCast_inj, pmC, pmE, pmS, pmV, pmK, pmQ, pmL, pmX, pmF, pmO, pmA, pmR, pmW, pmB, Option.isSome_some, ft, olds_ints, olds_bools, ↓reduceIte, Nat.reduceEqDiff, reduceCtorEq, Nat.reduceAdd, Nat.reduceMul, Nat.reduceLeDiff, Nat.reduceLT, Int.reduceLE, Int.reduceLT, Int.reduceEq, Int.reduceToNat, Nat.zero_mul, Nat.zero_add, Nat.mul_one, ne_eq, not_false_eq_true, not_true_eq_false, true_and, and_true, decide_true, decide_false, Bool.not_true, Bool.not_false, Bool.false_eq_true, and_self, Nat.add_zero]
      refine a4.app lh (by decide) rfl (by omega) (by simp only [maxLen]; omega) fun v4 h4 a4' l4 sd4 => ?_
      obtain ⟨a5', n5⟩ := a5.beside sd4 d1
      try simp only [s0, s9, hlt, hy1, hy2, hx3, hx4, hx2, or_false, false_or, Bool.and_self, Bool.and_true, Bool.true_and, Bool.and_false, Bool.false_and, Bool.not_not, Int.cast_ofNat_Int, beq_self_eq_true, Heap.set_same, Heap.set_set, Heap.kill_kset, Int.toNat_natCast, Int.natCast_nonneg, Int.ofNat_lt, Int.ofNat_le, Int.natCast_inj, pmC, pmE, pmS, pmV, pmK, pmQ, pmL, pmX, pmF, pmO, pmA, pmR, pmW, pmB, Option.isSome_some, ft, olds_ints, olds_bools, ↓reduceIte, Nat.reduceEqDiff, reduceCtorEq, Nat.reduceAdd, Nat.reduceMul, Nat.reduceLeDiff, Nat.reduceLT, Int.reduceLE, Int.reduceLT, Int.reduceEq, Int.reduceToNat, Nat.zero_mul, Nat.zero_add, Nat.mul_one, ne_eq, not_false_eq_true, not_true_eq_false, true_and, and_true, decide_true, decide_false, Bool.not_true, Bool.not_false, Bool.false_eq_true, and_self, Nat.add_zero]
      refine a5'.app l4 (by decide) rfl (by omega) (by simp only [maxLen]; omega) fun v5 h5 a5'' l5 sd5 => ?_
      have d2 : ∀ b, blkOf v4 = some b → blkOf (σ 8) ≠ some b := fun b e e2 => n5 b e2 e
      obtain ⟨a4'', n4⟩ := a4'.beside sd5 d2
      try simp only [s9, hw, or_false, false_or, Bool.and_self, Bool.and_true, Bool.true_and, Bool.and_false, Bool.false_and, Bool.not_not, Int.cast_ofNat_Int, beq_self_eq_true, Heap.set_same, Heap.set_set, Heap.kill_kset, Int.toNat_natCast, Int.natCast_nonneg, Int.ofNat_lt, Int.ofNat_le, Int.natCast_inj, pmC, pmE, pmS, pmV, pmK, pmQ, pmL, pmX, pmF, pmO, pmA, pmR, pmW, pmB, Option.isSome_some, ft, olds_ints, olds_bools, ↓reduceIte, Nat.reduceEqDiff, reduceCtorEq, Nat.reduceAdd, Nat.reduceMul, Nat.reduceLeDiff, Nat.reduceLT, Int.reduceLE, Int.reduceLT, Int.reduceEq, Int.reduceToNat, Nat.zero_mul, Nat.zero_add, Nat.mul_one, ne_eq, not_false_eq_true, not_true_eq_false, true_and, and_true, decide_true, decide_false, Bool.not_true, Bool.not_false, Bool.false_eq_true, and_self, Nat.add_zero]
      refine next hlt _ _ ⟨by rw [t1]; simpa [put, sp] using a4'', by rw [t2]; simpa [put, sp] using a5'', fun b e e2 => ?_, fun e => by omega, l5, by simp [put, s0], by simp [put, s1], by simp [put, s2], by simp [put]⟩
      have e' : blkOf v5 = some b := by simpa [put] using e
      have e2' : blkOf v4 = some b := by simpa [put] using e2
      exact n4 b e2' e'
    · have hil : i = l.length := by omega
      subst hil
      rw [List.take_length] at a4 a5
      have hnl := Nat.lt_irrefl l.length
      unfold mapB at k
      have la : (l.map (·.1)).length = l.length := by simp
      have lb : (l.map (·.2)).length = l.length := by simp
      generalize l.map (·.1) = A at *
      generalize l.map (·.2) = B at *
      rcases a4.live with ⟨e4, e0, _⟩ | ⟨r4, e4, x1, x2, x3⟩
      · rcases a5.live with ⟨e5, _, _⟩ | ⟨r5, e5, y1, y2, y3⟩
        · have hA0 : A = [] := List.length_eq_zero_iff.1 (by omega)
          have hB0 : B = [] := List.length_eq_zero_iff.1 (by omega)
          subst hA0 hB0
          try simp only [s0, s1, s2, s9, hnl, e4, e5, or_false, false_or, Bool.and_self, Bool.and_true, Bool.true_and, Bool.and_false, Bool.false_and, Bool.not_not, Int.cast_ofNat_Int, beq_self_eq_true, Heap.set_same, Heap.set_set, Heap.kill_kset, Int.toNat_natCast, Int.natCast_nonneg, Int.ofNat_lt, Int.ofNat_le, Int.natCast_inj, pmC, pmE, pmS, pmV, pmK, pmQ, pmL, pmX, pmF, pmO, pmA, pmR, pmW, pmB, Option.isSome_some, ft, olds_ints, olds_bools, ↓reduceIte, Nat.reduceEqDiff, reduceCtorEq, Nat.reduceAdd, Nat.reduceMul, Nat.reduceLeDiff, Nat.reduceLT, Int.reduceLE, Int.reduceLT, Int.reduceEq, Int.reduceToNat, Nat.zero_mul, Nat.zero_add, Nat.mul_one, ne_eq, not_false_eq_true, not_true_eq_false, true_and, and_true, decide_true, decide_false, Bool.not_true, Bool.not_false, Bool.false_eq_true, and_self, Nat.add_zero]
          refine PartsN _ _ ?_
          have ep : ∀ z : Int, partsB 0 [] z = decide (0 = z) := fun _ => rfl
          rw [ep, show srt (fun x : Int × Int => x.1) [] = [] from rfl, ep] at k
          cases hp : decide (0 = n)
          · rw [hp, Bool.false_and] at k
            try simp only [or_false, false_or, Bool.and_self, Bool.and_true, Bool.true_and, Bool.and_false, Bool.false_and, Bool.not_not, Int.cast_ofNat_Int, beq_self_eq_true, Heap.set_same, Heap.set_set, Heap.kill_kset, Int.toNat_natCast, Int.natCast_nonneg, Int.ofNat_lt, Int.ofNat_le, Int.natCast_inj, pmC, pmE, pmS, pmV, pmK, pmQ, pmL, pmX, pmF, pmO, pmA, pmR, pmW, pmB, Option.isSome_some, ft, olds_ints, olds_bools, ↓reduceIte, Nat.reduceEqDiff, reduceCtorEq, Nat.reduceAdd, Nat.reduceMul, Nat.reduceLeDiff, Nat.reduceLT, Int.reduceLE, Int.reduceLT, Int.reduceEq, Int.reduceToNat, Nat.zero_mul, Nat.zero_add, Nat.mul_one, ne_eq, not_false_eq_true, not_true_eq_false, true_and, and_true, decide_true, decide_false, Bool.not_true, Bool.not_false, Bool.false_eq_true, and_self, Nat.add_zero]
            exact finK_le lh k
          · rw [hp, Bool.true_and] at k
            try simp only [s2, or_false, false_or, Bool.and_self, Bool.and_true, Bool.true_and, Bool.and_false, Bool.false_and, Bool.not_not, Int.cast_ofNat_Int, beq_self_eq_true, Heap.set_same, Heap.set_set, Heap.kill_kset, Int.toNat_natCast, Int.natCast_nonneg, Int.ofNat_lt, Int.ofNat_le, Int.natCast_inj, pmC, pmE, pmS, pmV, pmK, pmQ, pmL, pmX, pmF, pmO, pmA, pmR, pmW, pmB, Option.isSome_some, ft, olds_ints, olds_bools, ↓reduceIte, Nat.reduceEqDiff, reduceCtorEq, Nat.reduceAdd, Nat.reduceMul, Nat.reduceLeDiff, Nat.reduceLT, Int.reduceLE, Int.reduceLT, Int.reduceEq, Int.reduceToNat, Nat.zero_mul, Nat.zero_add, Nat.mul_one, ne_eq, not_false_eq_true, not_true_eq_false, true_and, and_true, decide_true, decide_false, Bool.not_true, Bool.not_false, Bool.false_eq_true, and_self, Nat.add_zero]
            refine sortedN _ ?_
            try simp only [s2, or_false, false_or, Bool.and_self, Bool.and_true, Bool.true_and, Bool.and_false, Bool.false_and, Bool.not_not, Int.cast_ofNat_Int, beq_self_eq_true, Heap.set_same, Heap.set_set, Heap.kill_kset, Int.toNat_natCast, Int.natCast_nonneg, Int.ofNat_lt, Int.ofNat_le, Int.natCast_inj, pmC, pmE, pmS, pmV, pmK, pmQ, pmL, pmX, pmF, pmO, pmA, pmR, pmW, pmB, Option.isSome_some, ft, olds_ints, olds_bools, ↓reduceIte, Nat.reduceEqDiff, reduceCtorEq, Nat.reduceAdd, Nat.reduceMul, Nat.reduceLeDiff, Nat.reduceLT, Int.reduceLE, Int.reduceLT, Int.reduceEq, Int.reduceToNat, Nat.zero_mul, Nat.zero_add, Nat.mul_one, ne_eq, not_false_eq_true, not_true_eq_false, true_and, and_true, decide_true, decide_false, Bool.not_true, Bool.not_false, Bool.false_eq_true, and_self, Nat.add_zero]
            refine PartsN _ _ ?_
            try simp only [or_false, false_or, Bool.and_self, Bool.and_true, Bool.true_and, Bool.and_false, Bool.false_and, Bool.not_not, Int.cast_ofNat_Int, beq_self_eq_true, Heap.set_same, Heap.set_set, Heap.kill_kset, Int.toNat_natCast, Int.natCast_nonneg, Int.ofNat_lt, Int.ofNat_le, Int.natCast_inj, pmC, pmE, pmS, pmV, pmK, pmQ, pmL, pmX, pmF, pmO, pmA, pmR, pmW, pmB, Option.isSome_some, ft, olds_ints, olds_bools, ↓reduceIte, Nat.reduceEqDiff, reduceCtorEq, Nat.reduceAdd, Nat.reduceMul, Nat.reduceLeDiff, Nat.reduceLT, Int.reduceLE, Int.reduceLT, Int.reduceEq, Int.reduceToNat, Nat.zero_mul, Nat.zero_add, Nat.mul_one, ne_eq, not_false_eq_true, not_true_eq_false, true_and, and_true, decide_true, decide_false, Bool.not_true, Bool.not_false, Bool.false_eq_true, and_self, Nat.add_zero]
            exact finK_le lh k
        · rw [(hne e0).2] at e5; cases e5
      · rcases a5.live with ⟨e5, e0, _⟩ | ⟨r5, e5, y1, y2, y3⟩
        · rw [(hne e0).1] at e4; cases e4
        · have hq : r4 ≠ r5 := fun e => d1 r5 (by rw [e5]; rfl) (by rw [e4, e]; rfl)
          have hA : l.length * 2 ≤ (A.flatMap sp).length := by rw [flat_length sp 2 sp_len]; omega
          have hA2 : (A.flatMap sp).take (l.length * 2) = A.flatMap sp := List.take_of_length_le (by rw [flat_length sp 2 sp_len]; omega)
          have hB : l.length * 2 ≤ (B.flatMap sp).length := by rw [flat_length sp 2 sp_len]; omega
          have hB2 : (B.flatMap sp).take (l.length * 2) = B.flatMap sp := List.take_of_length_le (by rw [flat_length sp 2 sp_len]; omega)
          have y9 : (h'.kill r4).f r5 = some (B.flatMap sp) := by rw [Heap.kill_ne _ (Ne.symm hq)]; exact y2
          try simp only [s0, s1, s2, s9, hnl, e4, e5, x2, y9, hA, hA2, hB, hB2, old_sp, or_false, false_or, Bool.and_self, Bool.and_true, Bool.true_and, Bool.and_false, Bool.false_and, Bool.not_not, Int.cast_ofNat_Int, beq_self_eq_true, Heap.set_same, Heap.set_set, Heap.kill_kset, Int.toNat_natCast, Int.natCast_nonneg, Int.ofNat_lt, Int.ofNat_le, Int.natCast_inj, pmC, pmE, pmS, pmV, pmK, pmQ, pmL, pmX, pmF, pmO, pmA, pmR, pmW, pmB, Option.isSome_some, ft, olds_ints, olds_bools, ↓reduceIte, Nat.reduceEqDiff, reduceCtorEq, Nat.reduceAdd, Nat.reduceMul, Nat.reduceLeDiff, Nat.reduceLT, Int.reduceLE, Int.reduceLT, Int.reduceEq, Int.reduceToNat, Nat.zero_mul, Nat.zero_add, Nat.mul_one, ne_eq, not_false_eq_true, not_true_eq_false, true_and, and_true, decide_true, decide_false, Bool.not_true, Bool.not_false, Bool.false_eq_true, and_self, Nat.add_zero]
          have lk : h.le ((h'.kill r4).kill r5) := Heap.le_kill (Heap.le_kill lh x1) y1
          have pa := fun (fr : Bool) (h : Heap) (K : PV → Heap → Prop) => PartsR fr A n (by omega) h (K := K)
          have hBn : B ≠ [] := fun e => by
            have e0 : l.length = 0 := by rw [← lb, e]; rfl
            rw [(hne e0).2] at e5; cases e5
          have l3 : (srt lo1 B).length = l.length := by rw [srt_len, lb]
          have pb := fun (fr : Bool) (h : Heap) (K : PV → Heap → Prop) => PartsR fr (srt lo1 B) m (by omega) h (K := K)
          have ps := fun (fr : Bool) (h : Heap) (K : PV → Heap → Prop) => sortedR fr B (by omega) h (K := K)
          rw [la] at pa
          rw [l3] at pb
          rw [lb] at ps
          refine pa _ _ _ ?_
          cases hp : partsB 0 A n
          · rw [hp, Bool.false_and] at k
            try simp only [or_false, false_or, Bool.and_self, Bool.and_true, Bool.true_and, Bool.and_false, Bool.false_and, Bool.not_not, Int.cast_ofNat_Int, beq_self_eq_true, Heap.set_same, Heap.set_set, Heap.kill_kset, Int.toNat_natCast, Int.natCast_nonneg, Int.ofNat_lt, Int.ofNat_le, Int.natCast_inj, pmC, pmE, pmS, pmV, pmK, pmQ, pmL, pmX, pmF, pmO, pmA, pmR, pmW, pmB, Option.isSome_some, ft, olds_ints, olds_bools, ↓reduceIte, Nat.reduceEqDiff, reduceCtorEq, Nat.reduceAdd, Nat.reduceMul, Nat.reduceLeDiff, Nat.reduceLT, Int.reduceLE, Int.reduceLT, Int.reduceEq, Int.reduceToNat, Nat.zero_mul, Nat.zero_add, Nat.mul_one, ne_eq, not_false_eq_true, not_true_eq_false, true_and, and_true, decide_true, decide_false, Bool.not_true, Bool.not_false, Bool.false_eq_true, and_self, Nat.add_zero]
            exact finK_le lk k
          · rw [hp, Bool.true_and] at k
            try simp only [s2, or_false, false_or, Bool.and_self, Bool.and_true, Bool.true_and, Bool.and_false, Bool.false_and, Bool.not_not, Int.cast_ofNat_Int, beq_self_eq_true, Heap.set_same, Heap.set_set, Heap.kill_kset, Int.toNat_natCast, Int.natCast_nonneg, Int.ofNat_lt, Int.ofNat_le, Int.natCast_inj, pmC, pmE, pmS, pmV, pmK, pmQ, pmL, pmX, pmF, pmO, pmA, pmR, pmW, pmB, Option.isSome_some, ft, olds_ints, olds_bools, ↓reduceIte, Nat.reduceEqDiff, reduceCtorEq, Nat.reduceAdd, Nat.reduceMul, Nat.reduceLeDiff, Nat.reduceLT, Int.reduceLE, Int.reduceLT, Int.reduceEq, Int.reduceToNat, Nat.zero_mul, Nat.zero_add, Nat.mul_one, ne_eq, not_false_eq_true, not_true_eq_false, true_and, and_true, decide_true, decide_false, Bool.not_true, Bool.not_false, Bool.false_eq_true, and_self, Nat.add_zero]
            refine ps _ _ _ (fun e => absurd e hBn) (fun _ => ?_)
            try simp only [s2, or_false, false_or, Bool.and_self, Bool.and_true, Bool.true_and, Bool.and_false, Bool.false_and, Bool.not_not, Int.cast_ofNat_Int, beq_self_eq_true, Heap.set_same, Heap.set_set, Heap.kill_kset, Int.toNat_natCast, Int.natCast_nonneg, Int.ofNat_lt, Int.ofNat_le, Int.natCast_inj, pmC, pmE, pmS, pmV, pmK, pmQ, pmL, pmX, pmF, pmO, pmA, pmR, pmW, pmB, Option.isSome_some, ft, olds_ints, olds_bools, ↓reduceIte, Nat.reduceEqDiff, reduceCtorEq, Nat.reduceAdd, Nat.reduceMul, Nat.reduceLeDiff, Nat.reduceLT, Int.reduceLE, Int.reduceLT, Int.reduceEq, Int.reduceToNat, Nat.zero_mul, Nat.zero_add, Nat.mul_one, ne_eq, not_false_eq_true, not_true_eq_false, true_and, and_true, decide_true, decide_false, Bool.not_true, Bool.not_false, Bool.false_eq_true, and_self, Nat.add_zero]
            refine pb _ _ _ ?_
            try simp only [or_false, false_or, Bool.and_self, Bool.and_true, Bool.true_and, Bool.and_false, Bool.false_and, Bool.not_not, Int.cast_ofNat_Int, beq_self_eq_true, Heap.set_same, Heap.set_set, Heap.kill_kset, Int.toNat_natCast, Int.natCast_nonneg, Int.ofNat_lt, Int.ofNat_le, Int.natCast_inj, pmC, pmE, pmS, pmV, pmK, pmQ, pmL, pmX, pmF, pmO, pmA, pmR, pmW, pmB, Option.isSome_some, ft, olds_ints, olds_bools, ↓reduceIte, Nat.reduceEqDiff, reduceCtorEq, Nat.reduceAdd, Nat.reduceMul, Nat.reduceLeDiff, Nat.reduceLT, Int.reduceLE, Int.reduceLT, Int.reduceEq, Int.reduceToNat, Nat.zero_mul, Nat.zero_add, Nat.mul_one, ne_eq, not_false_eq_true, not_true_eq_false, true_and, and_true, decide_true, decide_false, Bool.not_true, Bool.not_false, Bool.false_eq_true, and_self, Nat.add_zero]
            exact finK_le lk k
end Go.Proofs.Ytkjkgogfilgjpaa
