/-
  Combining classes: the document's answer.
  Conditions: none but those that each sentence tells.
-/
import Derived.Test.YtnalkkailafklaaCcc2
namespace Go.Proofs.Ytnalkkailafklaa
open Go.Pm
set_option maxRecDepth 100000
set_option linter.unusedSimpArgs false
set_option linter.unusedVariables false

theorem OfR (c : Int) (h : Heap) {K : PV → Heap → Prop} (k : K (.int .i64 (cccT c)) h) : CanP Try.prog 19 [.int .i64 c] h K := by
  refine e19 rfl ?_
  try simp only [c19, r19_0, r19_1, or_false, false_or, Bool.and_self, Bool.and_true, Bool.true_and, Bool.and_false, Bool.false_and, Bool.not_not, Int.cast_ofNat_Int, beq_self_eq_true, Heap.set_same, Heap.set_set, Heap.kill_kset, Int.toNat_natCast, Int.natCast_nonneg, Int.ofNat_lt, Int.ofNat_le, Int.natCast_inj, pmC, pmE, pmS, pmV, pmK, pmQ, pmL, pmX, pmF, pmO, pmA, pmR, pmW, pmB, Option.isSome_some, ft, olds_ints, olds_bools, ↓reduceIte, Nat.reduceEqDiff, reduceCtorEq, Nat.reduceAdd, Nat.reduceMul, Nat.reduceLeDiff, Nat.reduceLT, Int.reduceLE, Int.reduceLT, Int.reduceEq, Int.reduceToNat, Nat.zero_mul, Nat.zero_add, Nat.mul_one, ne_eq, not_false_eq_true, not_true_eq_false, true_and, and_true, decide_true, decide_false, Bool.not_true, Bool.not_false, Bool.false_eq_true, and_self, Nat.add_zero]
  refine Combining _ ?_
  try simp only [or_false, false_or, Bool.and_self, Bool.and_true, Bool.true_and, Bool.and_false, Bool.false_and, Bool.not_not, Int.cast_ofNat_Int, beq_self_eq_true, Heap.set_same, Heap.set_set, Heap.kill_kset, Int.toNat_natCast, Int.natCast_nonneg, Int.ofNat_lt, Int.ofNat_le, Int.natCast_inj, pmC, pmE, pmS, pmV, pmK, pmQ, pmL, pmX, pmF, pmO, pmA, pmR, pmW, pmB, Option.isSome_some, ft, olds_ints, olds_bools, ↓reduceIte, Nat.reduceEqDiff, reduceCtorEq, Nat.reduceAdd, Nat.reduceMul, Nat.reduceLeDiff, Nat.reduceLT, Int.reduceLE, Int.reduceLT, Int.reduceEq, Int.reduceToNat, Nat.zero_mul, Nat.zero_add, Nat.mul_one, ne_eq, not_false_eq_true, not_true_eq_false, true_and, and_true, decide_true, decide_false, Bool.not_true, Bool.not_false, Bool.false_eq_true, and_self, Nat.add_zero]
  refine GetR6 _ _ (by decide) _ _ _ ?_
  rw [cccT_eq]
  try simp only [or_false, false_or, Bool.and_self, Bool.and_true, Bool.true_and, Bool.and_false, Bool.false_and, Bool.not_not, Int.cast_ofNat_Int, beq_self_eq_true, Heap.set_same, Heap.set_set, Heap.kill_kset, Int.toNat_natCast, Int.natCast_nonneg, Int.ofNat_lt, Int.ofNat_le, Int.natCast_inj, pmC, pmE, pmS, pmV, pmK, pmQ, pmL, pmX, pmF, pmO, pmA, pmR, pmW, pmB, Option.isSome_some, ft, olds_ints, olds_bools, ↓reduceIte, Nat.reduceEqDiff, reduceCtorEq, Nat.reduceAdd, Nat.reduceMul, Nat.reduceLeDiff, Nat.reduceLT, Int.reduceLE, Int.reduceLT, Int.reduceEq, Int.reduceToNat, Nat.zero_mul, Nat.zero_add, Nat.mul_one, ne_eq, not_false_eq_true, not_true_eq_false, true_and, and_true, decide_true, decide_false, Bool.not_true, Bool.not_false, Bool.false_eq_true, and_self, Nat.add_zero]
  exact finK_le (Heap.le_refl _) k
theorem befT_ref (a b : Int) : befT cccT a b = !(decide (0 < cccT b) && decide (cccT b < cccT a)) := by
  have r1 := ccc_in a
  have r2 := ccc_in b
  unfold befT
  by_cases h : cccT b = 0
  · simp [h]
  · have : 0 < cccT b := by omega
    simp [h, this, ← decide_not, Int.not_lt]
/-! ### One behind the other -/
def rowJ (f : Int → Int) (X : List Int) (i : Nat) : List Int := (fixP f X i).1 ++ srt (keyP f X) (rng (fixP f X i).2 i)
theorem rowJ_len (f : Int → Int) (X : List Int) (i : Nat) : (rowJ f X i).length = i := by
  have := fixP_len f X i
  simp [rowJ, srt_len, rng_len]; omega
theorem rowJ_mem (f : Int → Int) (X : List Int) (i : Nat) : ∀ x ∈ rowJ f X i, 0 ≤ x ∧ x < i := fun x h => by
  unfold rowJ at h
  rcases List.mem_append.1 h with h | h
  · exact fixP_mem f X _ x h
  · obtain ⟨j, rfl, _, _⟩ := rng_mem ((srt_fil _).mem.2 h); omega
theorem rowJ_at (f : Int → Int) (X : List Int) {i k : Nat} (hk : k < i) : 0 ≤ (rowJ f X i).getD k default ∧ (rowJ f X i).getD k default < i :=
  rowJ_mem f X i _ (get_mem _ (by rw [rowJ_len]; exact hk))
theorem fixP_last (f : Int → Int) (X : List Int) : ∀ i, (fixP f X i).2 = 0 ∨ keyP f X ((fixP f X i).1.getD ((fixP f X i).2 - 1) default) = 0
  | 0 => .inl rfl
  | i + 1 => by
    have ih := fixP_last f X i
    have hl := fixP_len f X i
    by_cases hz : f (X.getD i default) = 0
    · refine .inr ?_
      have hs := rowJ_len f X i
      unfold rowJ at hs
      simp only [fixP, if_pos hz, Nat.add_sub_cancel]
      generalize (fixP f X i).1 ++ srt (keyP f X) (rng (fixP f X i).2 i) = A at *
      subst hs
      rw [get_mid]
      exact hz
    · rw [rowI_nz f X hz]; exact ih
theorem rowJ_z (f : Int → Int) (X : List Int) {i : Nat} (hz : f (X.getD i default) = 0) : rowJ f X (i + 1) = rowJ f X i ++ [(i : Int)] := by
  unfold rowJ
  simp only [fixP, if_pos hz, rng_self]
  simp [srt]
theorem rowJ_ins (f : Int → Int) (X : List Int) {i k : Nat} (hp : 0 < f (X.getD i default)) (hk : k ≤ i) (h1 : ∀ p, k ≤ p → p < i → f (X.getD i default) < keyP f X ((rowJ f X i).getD p default))
    (h2 : k = 0 ∨ ¬ f (X.getD i default) < keyP f X ((rowJ f X i).getD (k - 1) default)) : rowJ f X (i + 1) = (rowJ f X i).take k ++ (i : Int) :: (rowJ f X i).drop k := by
  have hl := fixP_len f X i
  have hlast := fixP_last f X i
  have hJ := rowJ_len f X i
  have e1 : rowJ f X (i + 1) = (fixP f X i).1 ++ srt (keyP f X) (rng (fixP f X i).2 i ++ [(i : Int)]) := by
    unfold rowJ
    rw [rowI_nz f X (by omega), rng_succ hl.2]
  rw [e1]
  have sS := srt_srt (key := keyP f X) (rng (fixP f X i).2 i)
  have fS := srt_fil (key := keyP f X) (rng (fixP f X i).2 i)
  unfold rowJ at *
  generalize (rng (fixP f X i).2 i) = R at *
  generalize (fixP f X i).1 = F at *
  generalize (fixP f X i).2 = lo at *
  generalize srt (keyP f X) R = S at *
  have hlo : lo ≤ k := by
    rcases Nat.lt_or_ge k lo with q | q
    · have := h1 (lo - 1) (by omega) (by omega)
      rw [get_left F S (by omega)] at this
      rcases hlast with e | e
      · omega
      · omega
    · exact q
  rw [← hl.1] at hlo
  have ek : k = F.length + (k - F.length) := by omega
  have hS : S.length = i - F.length := by rw [List.length_append] at hJ; omega
  rw [ek, List.take_length_add_append, List.drop_length_add_append]
  generalize hq : k - F.length = t at *
  have m := mergeR (key := keyP f X) (i : Int) S t sS (by omega) (by
    rcases Nat.eq_zero_or_pos t with e | e
    · exact .inl e
    · rcases h2 with q | q
      · omega
      · rw [get_app F S (by omega), show k - 1 - F.length = t - 1 by omega] at q
        exact .inr q) (by
    rcases Nat.lt_or_ge t S.length with e | e
    · have := h1 k (Nat.le_refl _) (by omega)
      rw [get_app F S (by omega), hq] at this
      exact .inr this
    · exact .inl (by omega))
  rw [← srt_of m.1 ((fS.app (Fil.refl [(i : Int)])).trans m.2), List.append_assoc]
/-- The first place. -/
theorem rowJ_1 (f : Int → Int) (X : List Int) : rowJ f X 1 = [0] := by
  have h := rowJ_len f X 1
  have m := rowJ_mem f X 1
  rcases hr : rowJ f X 1 with _ | ⟨a, _ | ⟨b, l⟩⟩
  · rw [hr] at h; simp at h
  · have := m a (by rw [hr]; simp)
    have : a = 0 := by omega
    rw [this]
  · rw [hr] at h; simp at h
theorem slcN_lo0 {k : Option Nat} {E : Nat} {K : Kt} {h : Heap} : slcK k (some E) .nils (some (.int .i64 0)) none K h = K .nils h := by
  have := cut_lo (n := 0) (j := 0) (Nat.le_refl _)
  simp only [slcK, Option.isSome_some, true_and]
  rw [show ((0 : Int)) = ((0 : Nat) : Int) from rfl, ex_cut this]
theorem PlacesR (fr : Bool) (X : List Int) (hl : X.length ≤ 1000000) (h : Heap) {K : PV → Heap → Prop} (kn : X = [] → K .nils h) (k : X ≠ [] → K (.list true 1 X.length ((placeT cccT X).map (.int .i64))) h) :
    CanP Try.prog 27 [.list fr 1 X.length (X.map (.int .i64))] h K := by
  refine e27 rfl ?_
  try simp only [c27, r27_0, r27_1, r27_2, r27_3, r27_4, r27_5, r27_6, r27_7, r27_8, r27_9, or_false, false_or, Bool.and_self, Bool.and_true, Bool.true_and, Bool.and_false, Bool.false_and, Bool.not_not, Int.cast_ofNat_Int, beq_self_eq_true, Heap.set_same, Heap.set_set, Heap.kill_kset, Int.toNat_natCast, Int.natCast_nonneg, Int.ofNat_lt, Int.ofNat_le, Int.natCast_inj, pmC, pmE, pmS, pmV, pmK, pmQ, pmL, pmX, pmF, pmO, pmA, pmR, pmW, pmB, Option.isSome_some, ft, olds_ints, olds_bools, ↓reduceIte, Nat.reduceEqDiff, reduceCtorEq, Nat.reduceAdd, Nat.reduceMul, Nat.reduceLeDiff, Nat.reduceLT, Int.reduceLE, Int.reduceLT, Int.reduceEq, Int.reduceToNat, Nat.zero_mul, Nat.zero_add, Nat.mul_one, ne_eq, not_false_eq_true, not_true_eq_false, true_and, and_true, decide_true, decide_false, Bool.not_true, Bool.not_false, Bool.false_eq_true, and_self, Nat.add_zero]
  refine pwp_up X.length (fun i σ h' => Acc h h' (σ 3) 1 i ((rowJ cccT X i).map (.int .i64)) ∧ (i = 0 → σ 3 = .nils) ∧ h.le h' ∧ σ 0 = .list false 1 X.length (X.map (.int .i64)) ∧ σ 4 = .int .i64 i) ?_ ?_
  · exact ⟨Acc.nil _ _ _, fun _ => rfl, Heap.le_refl _, rfl, rfl⟩
  rintro i σ h' K' hi ⟨a, hne, lh, s0, s4⟩ next
  rcases Nat.lt_or_ge i X.length with hlt | hge
  · have hw : IntKind.i64.wrap ((i : Int) + 1) = (i : Int) + 1 := wrap_in (by omega) (by omega)
    have hx := getm (.int .i64) X hlt
    rcases a.live with ⟨e3, e0, e4⟩ | ⟨b, e3, hb, hb2, hbl⟩
    · subst e0
      have hlt0 : (0 : Int) < (X.length : Int) := by omega
      try simp only [s0, s4, hlt, hlt0, e3, hx, or_false, false_or, Bool.and_self, Bool.and_true, Bool.true_and, Bool.and_false, Bool.false_and, Bool.not_not, Int.cast_ofNat_Int, beq_self_eq_true, Heap.set_same, Heap.set_set, Heap.kill_kset, Int.toNat_natCast, Int.natCast_nonneg, Int.ofNat_lt, Int.ofNat_le, Int.natCast_inj, pmC, pmE, pmS, pmV, pmK, pmQ, pmL, pmX, pmF, pmO, pmA, pmR, pmW, pmB, Option.isSome_some, ft, olds_ints, olds_bools, ↓reduceIte, Nat.reduceEqDiff, reduceCtorEq, Nat.reduceAdd, Nat.reduceMul, Nat.reduceLeDiff, Nat.reduceLT, Int.reduceLE, Int.reduceLT, Int.reduceEq, Int.reduceToNat, Nat.zero_mul, Nat.zero_add, Nat.mul_one, ne_eq, not_false_eq_true, not_true_eq_false, true_and, and_true, decide_true, decide_false, Bool.not_true, Bool.not_false, Bool.false_eq_true, and_self, Nat.add_zero]
      refine pwp_fall (fun m σ h9 => h9 = h' ∧ σ 0 = .list false 1 X.length (X.map (.int .i64)) ∧ σ 3 = .nils ∧ σ 4 = .int .i64 (0 : Nat) ∧ σ 5 = .int .i64 0) 0 ⟨rfl, by simp [put, s0], by simp [put, e3], by simp [put, s4], by simp [put]⟩ ?_
      rintro m σ h9 K9 ⟨rfl, s0, s3, s4, s5⟩ -
      generalize X.getD 0 default = c at *
      try simp only [s0, s3, s4, s5, hlt, hlt0, hx, or_false, false_or, Bool.and_self, Bool.and_true, Bool.true_and, Bool.and_false, Bool.false_and, Bool.not_not, Int.cast_ofNat_Int, beq_self_eq_true, Heap.set_same, Heap.set_set, Heap.kill_kset, Int.toNat_natCast, Int.natCast_nonneg, Int.ofNat_lt, Int.ofNat_le, Int.natCast_inj, pmC, pmE, pmS, pmV, pmK, pmQ, pmL, pmX, pmF, pmO, pmA, pmR, pmW, pmB, Option.isSome_some, ft, olds_ints, olds_bools, ↓reduceIte, Nat.reduceEqDiff, reduceCtorEq, Nat.reduceAdd, Nat.reduceMul, Nat.reduceLeDiff, Nat.reduceLT, Int.reduceLE, Int.reduceLT, Int.reduceEq, Int.reduceToNat, Nat.zero_mul, Nat.zero_add, Nat.mul_one, ne_eq, not_false_eq_true, not_true_eq_false, true_and, and_true, decide_true, decide_false, Bool.not_true, Bool.not_false, Bool.false_eq_true, and_self, Nat.add_zero]
      refine ⟨_, OfR _ _ ⟨rfl, rfl⟩, ?_⟩
      by_cases p : 0 < cccT c
      · try simp only [s0, s3, s4, s5, hlt, p, slcN_hi, slcN_lo0, or_false, false_or, Bool.and_self, Bool.and_true, Bool.true_and, Bool.and_false, Bool.false_and, Bool.not_not, Int.cast_ofNat_Int, beq_self_eq_true, Heap.set_same, Heap.set_set, Heap.kill_kset, Int.toNat_natCast, Int.natCast_nonneg, Int.ofNat_lt, Int.ofNat_le, Int.natCast_inj, pmC, pmE, pmS, pmV, pmK, pmQ, pmL, pmX, pmF, pmO, pmA, pmR, pmW, pmB, Option.isSome_some, ft, olds_ints, olds_bools, ↓reduceIte, Nat.reduceEqDiff, reduceCtorEq, Nat.reduceAdd, Nat.reduceMul, Nat.reduceLeDiff, Nat.reduceLT, Int.reduceLE, Int.reduceLT, Int.reduceEq, Int.reduceToNat, Nat.zero_mul, Nat.zero_add, Nat.mul_one, ne_eq, not_false_eq_true, not_true_eq_false, true_and, and_true, decide_true, decide_false, Bool.not_true, Bool.not_false, Bool.false_eq_true, and_self, Nat.add_zero]
        refine ⟨by decide, by decide, fun b hb0 => ⟨by decide, fun b2 hb2 => ?_⟩⟩
        have hb2n : h9.f b2 = none := fresh_or hb0 hb2
        rw [Heap.kill_none hb0]
        refine next hlt _ _ ⟨?_, fun e => by omega, ?_, by simp [put, s0], by simp [put, (show IntKind.i64.wrap 1 = 1 by decide)]⟩
        · rw [rowJ_1]
          have a4 : Acc h (h9.set b2 [PV.int .i64 0]) (.buf b2 1 0 1) 1 1 ([0].map (PV.int .i64)) := Acc.buf (Heap.le_none lh hb2n) (Heap.set_same _ _ _) rfl
          simpa [put] using a4
        · exact Heap.le_set lh (Heap.le_none lh hb2n)
      · try simp only [s0, s3, s4, s5, hlt, p, slcN_hi, slcN_lo0, or_false, false_or, Bool.and_self, Bool.and_true, Bool.true_and, Bool.and_false, Bool.false_and, Bool.not_not, Int.cast_ofNat_Int, beq_self_eq_true, Heap.set_same, Heap.set_set, Heap.kill_kset, Int.toNat_natCast, Int.natCast_nonneg, Int.ofNat_lt, Int.ofNat_le, Int.natCast_inj, pmC, pmE, pmS, pmV, pmK, pmQ, pmL, pmX, pmF, pmO, pmA, pmR, pmW, pmB, Option.isSome_some, ft, olds_ints, olds_bools, ↓reduceIte, Nat.reduceEqDiff, reduceCtorEq, Nat.reduceAdd, Nat.reduceMul, Nat.reduceLeDiff, Nat.reduceLT, Int.reduceLE, Int.reduceLT, Int.reduceEq, Int.reduceToNat, Nat.zero_mul, Nat.zero_add, Nat.mul_one, ne_eq, not_false_eq_true, not_true_eq_false, true_and, and_true, decide_true, decide_false, Bool.not_true, Bool.not_false, Bool.false_eq_true, and_self, Nat.add_zero]
        refine ⟨by decide, by decide, fun b hb0 => ⟨by decide, fun b2 hb2 => ?_⟩⟩
        have hb2n : h9.f b2 = none := fresh_or hb0 hb2
        rw [Heap.kill_none hb0]
        refine next hlt _ _ ⟨?_, fun e => by omega, ?_, by simp [put, s0], by simp [put, (show IntKind.i64.wrap 1 = 1 by decide)]⟩
        · rw [rowJ_1]
          have a4 : Acc h (h9.set b2 [PV.int .i64 0]) (.buf b2 1 0 1) 1 1 ([0].map (PV.int .i64)) := Acc.buf (Heap.le_none lh hb2n) (Heap.set_same _ _ _) rfl
          simpa [put] using a4
        · exact Heap.le_set lh (Heap.le_none lh hb2n)
    · have hJl : i ≤ ((rowJ cccT X i).map (PV.int .i64)).length := by simp [rowJ_len]
      have hJt : ((rowJ cccT X i).map (PV.int .i64)).take i = (rowJ cccT X i).map (PV.int .i64) := List.take_of_length_le (by simp [rowJ_len])
      try simp only [s0, s4, hlt, e3, hx, hb2, hJl, hJt, or_false, false_or, Bool.and_self, Bool.and_true, Bool.true_and, Bool.and_false, Bool.false_and, Bool.not_not, Int.cast_ofNat_Int, beq_self_eq_true, Heap.set_same, Heap.set_set, Heap.kill_kset, Int.toNat_natCast, Int.natCast_nonneg, Int.ofNat_lt, Int.ofNat_le, Int.natCast_inj, pmC, pmE, pmS, pmV, pmK, pmQ, pmL, pmX, pmF, pmO, pmA, pmR, pmW, pmB, Option.isSome_some, ft, olds_ints, olds_bools, ↓reduceIte, Nat.reduceEqDiff, reduceCtorEq, Nat.reduceAdd, Nat.reduceMul, Nat.reduceLeDiff, Nat.reduceLT, Int.reduceLE, Int.reduceLT, Int.reduceEq, Int.reduceToNat, Nat.zero_mul, Nat.zero_add, Nat.mul_one, ne_eq, not_false_eq_true, not_true_eq_false, true_and, and_true, decide_true, decide_false, Bool.not_true, Bool.not_false, Bool.false_eq_true, and_self, Nat.add_zero]
      refine pwp_fall (fun m σ h9 => h9 = h'.kill b ∧ m ≤ i ∧ σ 0 = .list false 1 X.length (X.map (.int .i64)) ∧ σ 3 = .list false 1 i ((rowJ cccT X i).map (.int .i64)) ∧ σ 4 = .int .i64 i ∧ σ 5 = .int .i64 m ∧ (cccT (X.getD i default) = 0 → m = i) ∧ ∀ p, m ≤ p → p < i → cccT (X.getD i default) < keyP cccT X ((rowJ cccT X i).getD p default)) i ⟨rfl, Nat.le_refl _, by simp [put, s0], by simp [put], by simp [put, s4], by simp [put], fun _ => rfl, fun p _ _ => by omega⟩ ?_
      rintro m σ h9 K9 ⟨rfl, hm, s0, s3, s4, s5, hs5, hi5⟩ nxt
      have ins := fun hp h2 => rowJ_ins cccT X (i := i) (k := m) hp hm hi5 h2
      have stay := rowJ_z cccT X (i := i)
      have rC := ccc_in (X.getD i default)
      have lk : h.le (h'.kill b) := Heap.le_kill lh hb
      generalize X.getD i default = c at *
      try simp only [s0, s3, s4, s5, hlt, hx, or_false, false_or, Bool.and_self, Bool.and_true, Bool.true_and, Bool.and_false, Bool.false_and, Bool.not_not, Int.cast_ofNat_Int, beq_self_eq_true, Heap.set_same, Heap.set_set, Heap.kill_kset, Int.toNat_natCast, Int.natCast_nonneg, Int.ofNat_lt, Int.ofNat_le, Int.natCast_inj, pmC, pmE, pmS, pmV, pmK, pmQ, pmL, pmX, pmF, pmO, pmA, pmR, pmW, pmB, Option.isSome_some, ft, olds_ints, olds_bools, ↓reduceIte, Nat.reduceEqDiff, reduceCtorEq, Nat.reduceAdd, Nat.reduceMul, Nat.reduceLeDiff, Nat.reduceLT, Int.reduceLE, Int.reduceLT, Int.reduceEq, Int.reduceToNat, Nat.zero_mul, Nat.zero_add, Nat.mul_one, ne_eq, not_false_eq_true, not_true_eq_false, true_and, and_true, decide_true, decide_false, Bool.not_true, Bool.not_false, Bool.false_eq_true, and_self, Nat.add_zero]
      refine ⟨_, OfR _ _ ⟨rfl, rfl⟩, ?_⟩
      by_cases p : 0 < cccT c
      · by_cases p2 : (0 : Int) < (m : Int)
        · have hjm : m - 1 < i := by omega
          have hj := rowJ_at cccT X hjm
          have hgj := getm (.int .i64) (rowJ cccT X i) (i := m - 1) (by rw [rowJ_len]; omega)
          have hk9 : keyP cccT X ((rowJ cccT X i).getD (m - 1) default) = cccT (X.getD ((rowJ cccT X i).getD (m - 1) default).toNat default) := rfl
          generalize hj9 : (rowJ cccT X i).getD (m - 1) default = j at *
          have j0 := hj.1
          have j1 : j < X.length := by omega
          have hy := getm (.int .i64) X (i := j.toNat) (by omega)
          have w1 : IntKind.i64.wrap ((m : Int) - 1) = ((m - 1 : Nat) : Int) := by rw [wrap_in (by omega) (by omega)]; omega
          try simp only [s0, s3, s4, s5, hlt, hx, p, p2, w1, hjm, hgj, hy, j0, j1, or_false, false_or, Bool.and_self, Bool.and_true, Bool.true_and, Bool.and_false, Bool.false_and, Bool.not_not, Int.cast_ofNat_Int, beq_self_eq_true, Heap.set_same, Heap.set_set, Heap.kill_kset, Int.toNat_natCast, Int.natCast_nonneg, Int.ofNat_lt, Int.ofNat_le, Int.natCast_inj, pmC, pmE, pmS, pmV, pmK, pmQ, pmL, pmX, pmF, pmO, pmA, pmR, pmW, pmB, Option.isSome_some, ft, olds_ints, olds_bools, ↓reduceIte, Nat.reduceEqDiff, reduceCtorEq, Nat.reduceAdd, Nat.reduceMul, Nat.reduceLeDiff, Nat.reduceLT, Int.reduceLE, Int.reduceLT, Int.reduceEq, Int.reduceToNat, Nat.zero_mul, Nat.zero_add, Nat.mul_one, ne_eq, not_false_eq_true, not_true_eq_false, true_and, and_true, decide_true, decide_false, Bool.not_true, Bool.not_false, Bool.false_eq_true, and_self, Nat.add_zero]
          refine ⟨_, OfR _ _ ⟨rfl, rfl⟩, ?_⟩
          try simp only [s0, s3, s4, s5, hlt, hx, p, p2, w1, or_false, false_or, Bool.and_self, Bool.and_true, Bool.true_and, Bool.and_false, Bool.false_and, Bool.not_not, Int.cast_ofNat_Int, beq_self_eq_true, Heap.set_same, Heap.set_set, Heap.kill_kset, Int.toNat_natCast, Int.natCast_nonneg, Int.ofNat_lt, Int.ofNat_le, Int.natCast_inj, pmC, pmE, pmS, pmV, pmK, pmQ, pmL, pmX, pmF, pmO, pmA, pmR, pmW, pmB, Option.isSome_some, ft, olds_ints, olds_bools, ↓reduceIte, Nat.reduceEqDiff, reduceCtorEq, Nat.reduceAdd, Nat.reduceMul, Nat.reduceLeDiff, Nat.reduceLT, Int.reduceLE, Int.reduceLT, Int.reduceEq, Int.reduceToNat, Nat.zero_mul, Nat.zero_add, Nat.mul_one, ne_eq, not_false_eq_true, not_true_eq_false, true_and, and_true, decide_true, decide_false, Bool.not_true, Bool.not_false, Bool.false_eq_true, and_self, Nat.add_zero]
          refine ⟨_, OfR _ _ ⟨rfl, rfl⟩, ?_⟩
          by_cases q : cccT c < cccT (X.getD j.toNat default)
          · try simp only [q, s5, w1, or_false, false_or, Bool.and_self, Bool.and_true, Bool.true_and, Bool.and_false, Bool.false_and, Bool.not_not, Int.cast_ofNat_Int, beq_self_eq_true, Heap.set_same, Heap.set_set, Heap.kill_kset, Int.toNat_natCast, Int.natCast_nonneg, Int.ofNat_lt, Int.ofNat_le, Int.natCast_inj, pmC, pmE, pmS, pmV, pmK, pmQ, pmL, pmX, pmF, pmO, pmA, pmR, pmW, pmB, Option.isSome_some, ft, olds_ints, olds_bools, ↓reduceIte, Nat.reduceEqDiff, reduceCtorEq, Nat.reduceAdd, Nat.reduceMul, Nat.reduceLeDiff, Nat.reduceLT, Int.reduceLE, Int.reduceLT, Int.reduceEq, Int.reduceToNat, Nat.zero_mul, Nat.zero_add, Nat.mul_one, ne_eq, not_false_eq_true, not_true_eq_false, true_and, and_true, decide_true, decide_false, Bool.not_true, Bool.not_false, Bool.false_eq_true, and_self, Nat.add_zero]
            refine nxt (m - 1) _ _ (by omega) ⟨rfl, by omega, by simp [put, s0], by simp [put, s3], by simp [put, s4], by simp [put], fun e => by omega, fun p q1 q2 => ?_⟩
            rcases Nat.lt_or_ge p m with e | e
            · have : p = m - 1 := by omega
              rw [this, hj9, hk9]; exact q
            · exact hi5 p e q2
          · try simp only [q, s0, s3, s4, s5, slcL_hi hm, or_false, false_or, Bool.and_self, Bool.and_true, Bool.true_and, Bool.and_false, Bool.false_and, Bool.not_not, Int.cast_ofNat_Int, beq_self_eq_true, Heap.set_same, Heap.set_set, Heap.kill_kset, Int.toNat_natCast, Int.natCast_nonneg, Int.ofNat_lt, Int.ofNat_le, Int.natCast_inj, pmC, pmE, pmS, pmV, pmK, pmQ, pmL, pmX, pmF, pmO, pmA, pmR, pmW, pmB, Option.isSome_some, ft, olds_ints, olds_bools, ↓reduceIte, Nat.reduceEqDiff, reduceCtorEq, Nat.reduceAdd, Nat.reduceMul, Nat.reduceLeDiff, Nat.reduceLT, Int.reduceLE, Int.reduceLT, Int.reduceEq, Int.reduceToNat, Nat.zero_mul, Nat.zero_add, Nat.mul_one, ne_eq, not_false_eq_true, not_true_eq_false, true_and, and_true, decide_true, decide_false, Bool.not_true, Bool.not_false, Bool.false_eq_true, and_self, Nat.add_zero]
            refine (Acc.nil h (h'.kill b) 1).appA (m := m) lk (by simp [rowJ_len]; omega) (by omega) (by simp only [maxLen]; omega) fun v1 h1 a1 l1 sd1 => ?_
            try simp only [s4, or_false, false_or, Bool.and_self, Bool.and_true, Bool.true_and, Bool.and_false, Bool.false_and, Bool.not_not, Int.cast_ofNat_Int, beq_self_eq_true, Heap.set_same, Heap.set_set, Heap.kill_kset, Int.toNat_natCast, Int.natCast_nonneg, Int.ofNat_lt, Int.ofNat_le, Int.natCast_inj, pmC, pmE, pmS, pmV, pmK, pmQ, pmL, pmX, pmF, pmO, pmA, pmR, pmW, pmB, Option.isSome_some, ft, olds_ints, olds_bools, ↓reduceIte, Nat.reduceEqDiff, reduceCtorEq, Nat.reduceAdd, Nat.reduceMul, Nat.reduceLeDiff, Nat.reduceLT, Int.reduceLE, Int.reduceLT, Int.reduceEq, Int.reduceToNat, Nat.zero_mul, Nat.zero_add, Nat.mul_one, ne_eq, not_false_eq_true, not_true_eq_false, true_and, and_true, decide_true, decide_false, Bool.not_true, Bool.not_false, Bool.false_eq_true, and_self, Nat.add_zero]
            refine a1.app l1 (by decide) rfl (by omega) (by simp only [maxLen]; omega) fun v2 h2 a2 l2 sd2 => ?_
            try simp only [s3, s5, slcL_lo hm, or_false, false_or, Bool.and_self, Bool.and_true, Bool.true_and, Bool.and_false, Bool.false_and, Bool.not_not, Int.cast_ofNat_Int, beq_self_eq_true, Heap.set_same, Heap.set_set, Heap.kill_kset, Int.toNat_natCast, Int.natCast_nonneg, Int.ofNat_lt, Int.ofNat_le, Int.natCast_inj, pmC, pmE, pmS, pmV, pmK, pmQ, pmL, pmX, pmF, pmO, pmA, pmR, pmW, pmB, Option.isSome_some, ft, olds_ints, olds_bools, ↓reduceIte, Nat.reduceEqDiff, reduceCtorEq, Nat.reduceAdd, Nat.reduceMul, Nat.reduceLeDiff, Nat.reduceLT, Int.reduceLE, Int.reduceLT, Int.reduceEq, Int.reduceToNat, Nat.zero_mul, Nat.zero_add, Nat.mul_one, ne_eq, not_false_eq_true, not_true_eq_false, true_and, and_true, decide_true, decide_false, Bool.not_true, Bool.not_false, Bool.false_eq_true, and_self, Nat.add_zero]
            refine a2.appA l2 (by simp [rowJ_len]) (by omega) (by simp only [maxLen]; omega) fun v3 h3 a3 l3 sd3 => ?_
            try simp only [s4, hw, or_false, false_or, Bool.and_self, Bool.and_true, Bool.true_and, Bool.and_false, Bool.false_and, Bool.not_not, Int.cast_ofNat_Int, beq_self_eq_true, Heap.set_same, Heap.set_set, Heap.kill_kset, Int.toNat_natCast, Int.natCast_nonneg, Int.ofNat_lt, Int.ofNat_le, Int.natCast_inj, pmC, pmE, pmS, pmV, pmK, pmQ, pmL, pmX, pmF, pmO, pmA, pmR, pmW, pmB, Option.isSome_some, ft, olds_ints, olds_bools, ↓reduceIte, Nat.reduceEqDiff, reduceCtorEq, Nat.reduceAdd, Nat.reduceMul, Nat.reduceLeDiff, Nat.reduceLT, Int.reduceLE, Int.reduceLT, Int.reduceEq, Int.reduceToNat, Nat.zero_mul, Nat.zero_add, Nat.mul_one, ne_eq, not_false_eq_true, not_true_eq_false, true_and, and_true, decide_true, decide_false, Bool.not_true, Bool.not_false, Bool.false_eq_true, and_self, Nat.add_zero]
            rw [show 0 + m + 1 + (i - m) = i + 1 by omega] at a3
            refine next hlt _ _ ⟨?_, fun e => by omega, l3, by simp [put, s0], by simp [put]⟩
            have eJ := ins p (.inr (by rw [hk9]; exact q))
            have eR : ([] ++ ((rowJ cccT X i).map (PV.int .i64)).take m ++ [PV.int .i64 i]) ++ (((rowJ cccT X i).map (PV.int .i64)).drop m).take (i - m) = (rowJ cccT X (i + 1)).map (PV.int .i64) := by
              rw [List.take_of_length_le (show (((rowJ cccT X i).map (PV.int .i64)).drop m).length ≤ i - m by simp [rowJ_len]), eJ]; simp [List.map_take, List.map_drop]
            have a4 : Acc h h3 v3 1 (i + 1) ((rowJ cccT X (i + 1)).map (PV.int .i64)) := by rw [← eR]; simpa using a3
            simpa [put] using a4
        · try simp only [s0, s3, s4, s5, hlt, hx, p, p2, slcL_hi hm, or_false, false_or, Bool.and_self, Bool.and_true, Bool.true_and, Bool.and_false, Bool.false_and, Bool.not_not, Int.cast_ofNat_Int, beq_self_eq_true, Heap.set_same, Heap.set_set, Heap.kill_kset, Int.toNat_natCast, Int.natCast_nonneg, Int.ofNat_lt, Int.ofNat_le, Int.natCast_inj, pmC, pmE, pmS, pmV, pmK, pmQ, pmL, pmX, pmF, pmO, pmA, pmR, pmW, pmB, Option.isSome_some, ft, olds_ints, olds_bools, ↓reduceIte, Nat.reduceEqDiff, reduceCtorEq, Nat.reduceAdd, Nat.reduceMul, Nat.reduceLeDiff, Nat.reduceLT, Int.reduceLE, Int.reduceLT, Int.reduceEq, Int.reduceToNat, Nat.zero_mul, Nat.zero_add, Nat.mul_one, ne_eq, not_false_eq_true, not_true_eq_false, true_and, and_true, decide_true, decide_false, Bool.not_true, Bool.not_false, Bool.false_eq_true, and_self, Nat.add_zero]
          refine (Acc.nil h (h'.kill b) 1).appA (m := m) lk (by simp [rowJ_len]; omega) (by omega) (by simp only [maxLen]; omega) fun v1 h1 a1 l1 sd1 => ?_
          try simp only [s4, or_false, false_or, Bool.and_self, Bool.and_true, Bool.true_and, Bool.and_false, Bool.false_and, Bool.not_not, Int.cast_ofNat_Int, beq_self_eq_true, Heap.set_same, Heap.set_set, Heap.kill_kset, Int.toNat_natCast, Int.natCast_nonneg, Int.ofNat_lt, Int.ofNat_le, Int.natCast_inj, pmC, pmE, pmS, pmV, pmK, pmQ, pmL, pmX, pmF, pmO, pmA, pmR, pmW, pmB, Option.isSome_some, ft, olds_ints, olds_bools, ↓reduceIte, Nat.reduceEqDiff, reduceCtorEq, Nat.reduceAdd, Nat.reduceMul, Nat.reduceLeDiff, Nat.reduceLT, Int.reduceLE, Int.reduceLT, Int.reduceEq, Int.reduceToNat, Nat.zero_mul, Nat.zero_add, Nat.mul_one, ne_eq, not_false_eq_true, not_true_eq_false, true_and, and_true, decide_true, decide_false, Bool.not_true, Bool.not_false, Bool.false_eq_true, and_self, Nat.add_zero]
          refine a1.app l1 (by decide) rfl (by omega) (by simp only [maxLen]; omega) fun v2 h2 a2 l2 sd2 => ?_
          try simp only [s3, s5, slcL_lo hm, or_false, false_or, Bool.and_self, Bool.and_true, Bool.true_and, Bool.and_false, Bool.false_and, Bool.not_not, Int.cast_ofNat_Int, beq_self_eq_true, Heap.set_same, Heap.set_set, Heap.kill_kset, Int.toNat_natCast, Int.natCast_nonneg, Int.ofNat_lt, Int.ofNat_le, Int.natCast_inj, pmC, pmE, pmS, pmV, pmK, pmQ, pmL, pmX, pmF, pmO, pmA, pmR, pmW, pmB, Option.isSome_some, ft, olds_ints, olds_bools, ↓reduceIte, Nat.reduceEqDiff, reduceCtorEq, Nat.reduceAdd, Nat.reduceMul, Nat.reduceLeDiff, Nat.reduceLT, Int.reduceLE, Int.reduceLT, Int.reduceEq, Int.reduceToNat, Nat.zero_mul, Nat.zero_add, Nat.mul_one, ne_eq, not_false_eq_true, not_true_eq_false, true_and, and_true, decide_true, decide_false, Bool.not_true, Bool.not_false, Bool.false_eq_true, and_self, Nat.add_zero]
          refine a2.appA l2 (by simp [rowJ_len]) (by omega) (by simp only [maxLen]; omega) fun v3 h3 a3 l3 sd3 => ?_
          try simp only [s4, hw, or_false, false_or, Bool.and_self, Bool.and_true, Bool.true_and, Bool.and_false, Bool.false_and, Bool.not_not, Int.cast_ofNat_Int, beq_self_eq_true, Heap.set_same, Heap.set_set, Heap.kill_kset, Int.toNat_natCast, Int.natCast_nonneg, Int.ofNat_lt, Int.ofNat_le, Int.natCast_inj, pmC, pmE, pmS, pmV, pmK, pmQ, pmL, pmX, pmF, pmO, pmA, pmR, pmW, pmB, Option.isSome_some, ft, olds_ints, olds_bools, ↓reduceIte, Nat.reduceEqDiff, reduceCtorEq, Nat.reduceAdd, Nat.reduceMul, Nat.reduceLeDiff, Nat.reduceLT, Int.reduceLE, Int.reduceLT, Int.reduceEq, Int.reduceToNat, Nat.zero_mul, Nat.zero_add, Nat.mul_one, ne_eq, not_false_eq_true, not_true_eq_false, true_and, and_true, decide_true, decide_false, Bool.not_true, Bool.not_false, Bool.false_eq_true, and_self, Nat.add_zero]
          rw [show 0 + m + 1 + (i - m) = i + 1 by omega] at a3
          refine next hlt _ _ ⟨?_, fun e => by omega, l3, by simp [put, s0], by simp [put]⟩
          have eJ := ins p (.inl (by omega))
          have eR : ([] ++ ((rowJ cccT X i).map (PV.int .i64)).take m ++ [PV.int .i64 i]) ++ (((rowJ cccT X i).map (PV.int .i64)).drop m).take (i - m) = (rowJ cccT X (i + 1)).map (PV.int .i64) := by
            rw [List.take_of_length_le (show (((rowJ cccT X i).map (PV.int .i64)).drop m).length ≤ i - m by simp [rowJ_len]), eJ]; simp [List.map_take, List.map_drop]
          have a4 : Acc h h3 v3 1 (i + 1) ((rowJ cccT X (i + 1)).map (PV.int .i64)) := by rw [← eR]; simpa using a3
          simpa [put] using a4
      · try simp only [s0, s3, s4, s5, hlt, hx, p, slcL_hi hm, or_false, false_or, Bool.and_self, Bool.and_true, Bool.true_and, Bool.and_false, Bool.false_and, Bool.not_not, Int.cast_ofNat_Int, beq_self_eq_true, Heap.set_same, Heap.set_set, Heap.kill_kset, Int.toNat_natCast, Int.natCast_nonneg, Int.ofNat_lt, Int.ofNat_le, Int.natCast_inj, pmC, pmE, pmS, pmV, pmK, pmQ, pmL, pmX, pmF, pmO, pmA, pmR, pmW, pmB, Option.isSome_some, ft, olds_ints, olds_bools, ↓reduceIte, Nat.reduceEqDiff, reduceCtorEq, Nat.reduceAdd, Nat.reduceMul, Nat.reduceLeDiff, Nat.reduceLT, Int.reduceLE, Int.reduceLT, Int.reduceEq, Int.reduceToNat, Nat.zero_mul, Nat.zero_add, Nat.mul_one, ne_eq, not_false_eq_true, not_true_eq_false, true_and, and_true, decide_true, decide_false, Bool.not_true, Bool.not_false, Bool.false_eq_true, and_self, Nat.add_zero]
        refine (Acc.nil h (h'.kill b) 1).appA (m := m) lk (by simp [rowJ_len]; omega) (by omega) (by simp only [maxLen]; omega) fun v1 h1 a1 l1 sd1 => ?_
        try simp only [s4, or_false, false_or, Bool.and_self, Bool.and_true, Bool.true_and, Bool.and_false, Bool.false_and, Bool.not_not, Int.cast_ofNat_Int, beq_self_eq_true, Heap.set_same, Heap.set_set, Heap.kill_kset, Int.toNat_natCast, Int.natCast_nonneg, Int.ofNat_lt, Int.ofNat_le, Int.natCast_inj, pmC, pmE, pmS, pmV, pmK, pmQ, pmL, pmX, pmF, pmO, pmA, pmR, pmW, pmB, Option.isSome_some, ft, olds_ints, olds_bools, ↓reduceIte, Nat.reduceEqDiff, reduceCtorEq, Nat.reduceAdd, Nat.reduceMul, Nat.reduceLeDiff, Nat.reduceLT, Int.reduceLE, Int.reduceLT, Int.reduceEq, Int.reduceToNat, Nat.zero_mul, Nat.zero_add, Nat.mul_one, ne_eq, not_false_eq_true, not_true_eq_false, true_and, and_true, decide_true, decide_false, Bool.not_true, Bool.not_false, Bool.false_eq_true, and_self, Nat.add_zero]
        refine a1.app l1 (by decide) rfl (by omega) (by simp only [maxLen]; omega) fun v2 h2 a2 l2 sd2 => ?_
        try simp only [s3, s5, slcL_lo hm, or_false, false_or, Bool.and_self, Bool.and_true, Bool.true_and, Bool.and_false, Bool.false_and, Bool.not_not, Int.cast_ofNat_Int, beq_self_eq_true, Heap.set_same, Heap.set_set, Heap.kill_kset, Int.toNat_natCast, Int.natCast_nonneg, Int.ofNat_lt, Int.ofNat_le, Int.natCast_inj, pmC, pmE, pmS, pmV, pmK, pmQ, pmL, pmX, pmF, pmO, pmA, pmR, pmW, pmB, Option.isSome_some, ft, olds_ints, olds_bools, ↓reduceIte, Nat.reduceEqDiff, reduceCtorEq, Nat.reduceAdd, Nat.reduceMul, Nat.reduceLeDiff, Nat.reduceLT, Int.reduceLE, Int.reduceLT, Int.reduceEq, Int.reduceToNat, Nat.zero_mul, Nat.zero_add, Nat.mul_one, ne_eq, not_false_eq_true, not_true_eq_false, true_and, and_true, decide_true, decide_false, Bool.not_true, Bool.not_false, Bool.false_eq_true, and_self, Nat.add_zero]
        refine a2.appA l2 (by simp [rowJ_len]) (by omega) (by simp only [maxLen]; omega) fun v3 h3 a3 l3 sd3 => ?_
        try simp only [s4, hw, or_false, false_or, Bool.and_self, Bool.and_true, Bool.true_and, Bool.and_false, Bool.false_and, Bool.not_not, Int.cast_ofNat_Int, beq_self_eq_true, Heap.set_same, Heap.set_set, Heap.kill_kset, Int.toNat_natCast, Int.natCast_nonneg, Int.ofNat_lt, Int.ofNat_le, Int.natCast_inj, pmC, pmE, pmS, pmV, pmK, pmQ, pmL, pmX, pmF, pmO, pmA, pmR, pmW, pmB, Option.isSome_some, ft, olds_ints, olds_bools, ↓reduceIte, Nat.reduceEqDiff, reduceCtorEq, Nat.reduceAdd, Nat.reduceMul, Nat.reduceLeDiff, Nat.reduceLT, Int.reduceLE, Int.reduceLT, Int.reduceEq, Int.reduceToNat, Nat.zero_mul, Nat.zero_add, Nat.mul_one, ne_eq, not_false_eq_true, not_true_eq_false, true_and, and_true, decide_true, decide_false, Bool.not_true, Bool.not_false, Bool.false_eq_true, and_self, Nat.add_zero]
        rw [show 0 + m + 1 + (i - m) = i + 1 by omega] at a3
        refine next hlt _ _ ⟨?_, fun e => by omega, l3, by simp [put, s0], by simp [put]⟩
        have hm0 := hs5 (by omega)
        have hd0 : ((rowJ cccT X i).drop m) = [] := List.drop_eq_nil_of_le (by rw [rowJ_len]; omega)
        have ht0 : ((rowJ cccT X i).take m) = rowJ cccT X i := List.take_of_length_le (by rw [rowJ_len]; omega)
        have eJ := stay (by omega)
        have eR : ([] ++ ((rowJ cccT X i).map (PV.int .i64)).take m ++ [PV.int .i64 i]) ++ (((rowJ cccT X i).map (PV.int .i64)).drop m).take (i - m) = (rowJ cccT X (i + 1)).map (PV.int .i64) := by
          rw [← List.map_take, ← List.map_drop, hd0, ht0, eJ]; simp
        have a4 : Acc h h3 v3 1 (i + 1) ((rowJ cccT X (i + 1)).map (PV.int .i64)) := by rw [← eR]; simpa using a3
        simpa [put] using a4
  · have e : i = X.length := by omega
    subst e
    have hnl := Nat.lt_irrefl X.length
    try simp only [s0, s4, hnl, or_false, false_or, Bool.and_self, Bool.and_true, Bool.true_and, Bool.and_false, Bool.false_and, Bool.not_not, Int.cast_ofNat_Int, beq_self_eq_true, Heap.set_same, Heap.set_set, Heap.kill_kset, Int.toNat_natCast, Int.natCast_nonneg, Int.ofNat_lt, Int.ofNat_le, Int.natCast_inj, pmC, pmE, pmS, pmV, pmK, pmQ, pmL, pmX, pmF, pmO, pmA, pmR, pmW, pmB, Option.isSome_some, ft, olds_ints, olds_bools, ↓reduceIte, Nat.reduceEqDiff, reduceCtorEq, Nat.reduceAdd, Nat.reduceMul, Nat.reduceLeDiff, Nat.reduceLT, Int.reduceLE, Int.reduceLT, Int.reduceEq, Int.reduceToNat, Nat.zero_mul, Nat.zero_add, Nat.mul_one, ne_eq, not_false_eq_true, not_true_eq_false, true_and, and_true, decide_true, decide_false, Bool.not_true, Bool.not_false, Bool.false_eq_true, and_self, Nat.add_zero]
    rcases a with ⟨e3, e0, e4⟩ | ⟨b, e3, hb, hb2, hbl⟩
    · rw [e3]
      have h0 : X = [] := List.length_eq_zero_iff.1 e0
      exact finK_wk (Wk.drop _ lh) (kn h0)
    · have h0 : X ≠ [] := fun e0 => by
        have := hne (by rw [e0]; rfl)
        rw [e3] at this; cases this
      have ea : rowJ cccT X X.length = placeT cccT X := rfl
      rw [← ea] at k
      rw [e3]
      refine (Acc.buf hb hb2 hbl).fin lh ?_
      rw [olds_ints]
      exact k h0
end Go.Proofs.Ytnalkkailafklaa
