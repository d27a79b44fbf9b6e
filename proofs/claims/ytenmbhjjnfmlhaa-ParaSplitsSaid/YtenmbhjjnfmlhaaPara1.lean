/-
  Paragraphs' directions: the package para (what begins an isolate, what goes together, the first strong one, the level).
  Conditions: none but those that each sentence tells.
-/
import Derived.Test.YtenmbhjjnfmlhaaIntsIdx
import Derived.Test.YtenmbhjjnfmlhaaIntsRep
namespace Go.Proofs.Ytenmbhjjnfmlhaa
open Go.Pm
set_option maxRecDepth 100000
set_option linter.unusedSimpArgs false
set_option linter.unusedVariables false

def opensL : List Int := [19, 20, 21]
def opensT (c : Int) : Bool := opensL.contains c
theorem opens (c : Int) (h : Heap) {K : PV → Heap → Prop} (k : K (.bool (opensT c)) h) : CanP Try.prog 23 [.int .i64 c] h K := by
  refine e23 rfl ?_
  try simp only [c23, r23_0, r23_1, or_false, false_or, Bool.and_self, Bool.and_true, Bool.true_and, Bool.and_false, Bool.false_and, Bool.not_not, Int.cast_ofNat_Int, beq_self_eq_true, Heap.set_same, Heap.set_set, Heap.kill_kset, Int.toNat_natCast, Int.natCast_nonneg, Int.ofNat_lt, Int.ofNat_le, Int.natCast_inj, pmC, pmE, pmS, pmV, pmK, pmQ, pmL, pmX, pmF, pmO, pmA, pmR, pmW, pmB, Option.isSome_some, ft, olds_ints, olds_bools, ↓reduceIte, Nat.reduceEqDiff, reduceCtorEq, Nat.reduceAdd, Nat.reduceMul, Nat.reduceLeDiff, Nat.reduceLT, Int.reduceLE, Int.reduceLT, Int.reduceEq, Int.reduceToNat, Nat.zero_mul, Nat.zero_add, Nat.mul_one, ne_eq, not_false_eq_true, not_true_eq_false, true_and, and_true, decide_true, decide_false, Bool.not_true, Bool.not_false, Bool.false_eq_true, and_self, Nat.add_zero]
  refine ContainsI _ opensL (by decide) c _ ?_
  try simp only [or_false, false_or, Bool.and_self, Bool.and_true, Bool.true_and, Bool.and_false, Bool.false_and, Bool.not_not, Int.cast_ofNat_Int, beq_self_eq_true, Heap.set_same, Heap.set_set, Heap.kill_kset, Int.toNat_natCast, Int.natCast_nonneg, Int.ofNat_lt, Int.ofNat_le, Int.natCast_inj, pmC, pmE, pmS, pmV, pmK, pmQ, pmL, pmX, pmF, pmO, pmA, pmR, pmW, pmB, Option.isSome_some, ft, olds_ints, olds_bools, ↓reduceIte, Nat.reduceEqDiff, reduceCtorEq, Nat.reduceAdd, Nat.reduceMul, Nat.reduceLeDiff, Nat.reduceLT, Int.reduceLE, Int.reduceLT, Int.reduceEq, Int.reduceToNat, Nat.zero_mul, Nat.zero_add, Nat.mul_one, ne_eq, not_false_eq_true, not_true_eq_false, true_and, and_true, decide_true, decide_false, Bool.not_true, Bool.not_false, Bool.false_eq_true, and_self, Nat.add_zero]
  exact finK_le (Heap.le_refl _) k
/-- What is known ahead of a place: what goes together, and what is open. -/
def mSt (C : List Int) : Nat → List Int × List Int
  | 0 => (List.replicate C.length (-1), [])
  | i + 1 => if opensT (C.getD i default) then ((mSt C i).1.set i C.length, (mSt C i).2 ++ [(i : Int)])
    else if C.getD i default = 22 ∧ (mSt C i).2 ≠ [] then (((mSt C i).1.set ((mSt C i).2.getD ((mSt C i).2.length - 1) default).toNat i).set i ((mSt C i).2.getD ((mSt C i).2.length - 1) default), (mSt C i).2.take ((mSt C i).2.length - 1))
    else mSt C i
theorem mSt_len (C : List Int) : ∀ i, (mSt C i).1.length = C.length ∧ (mSt C i).2.length ≤ i ∧ ∀ x ∈ (mSt C i).2, 0 ≤ x ∧ x < i
  | 0 => by simp [mSt]
  | i + 1 => by
    obtain ⟨h1, h2, h3⟩ := mSt_len C i
    unfold mSt
    split
    · refine ⟨by simp [h1], by simp; omega, fun x hx => ?_⟩
      rcases List.mem_append.1 hx with hx | hx
      · have := h3 x hx; omega
      · simp at hx; omega
    · split
      · refine ⟨by simp [h1], by simp; omega, fun x hx => ?_⟩
        have := h3 x (List.mem_of_mem_take hx); omega
      · exact ⟨h1, by omega, fun x hx => by have := h3 x hx; omega⟩
def matchT (C : List Int) : List Int := (mSt C C.length).1
theorem Matches (fr : Bool) (C : List Int) (hl : C.length ≤ 1000000) (h : Heap) {K : PV → Heap → Prop} (k : K (.list true 1 C.length ((matchT C).map (.int .i64))) h) : CanP Try.prog 8 [.list fr 1 C.length (C.map (.int .i64))] h K := by
  refine e8 rfl ?_
  try simp only [c8, r8_0, r8_1, r8_2, r8_3, r8_4, r8_5, r8_6, r8_7, r8_8, r8_9, r8_10, r8_11, r8_12, r8_13, r8_14, or_false, false_or, Bool.and_self, Bool.and_true, Bool.true_and, Bool.and_false, Bool.false_and, Bool.not_not, Int.cast_ofNat_Int, beq_self_eq_true, Heap.set_same, Heap.set_set, Heap.kill_kset, Int.toNat_natCast, Int.natCast_nonneg, Int.ofNat_lt, Int.ofNat_le, Int.natCast_inj, pmC, pmE, pmS, pmV, pmK, pmQ, pmL, pmX, pmF, pmO, pmA, pmR, pmW, pmB, Option.isSome_some, ft, olds_ints, olds_bools, ↓reduceIte, Nat.reduceEqDiff, reduceCtorEq, Nat.reduceAdd, Nat.reduceMul, Nat.reduceLeDiff, Nat.reduceLT, Int.reduceLE, Int.reduceLT, Int.reduceEq, Int.reduceToNat, Nat.zero_mul, Nat.zero_add, Nat.mul_one, ne_eq, not_false_eq_true, not_true_eq_false, true_and, and_true, decide_true, decide_false, Bool.not_true, Bool.not_false, Bool.false_eq_true, and_self, Nat.add_zero]
  refine Repeat _ _ _ hl _ fun b hb => ?_
  try simp only [or_false, false_or, Bool.and_self, Bool.and_true, Bool.true_and, Bool.and_false, Bool.false_and, Bool.not_not, Int.cast_ofNat_Int, beq_self_eq_true, Heap.set_same, Heap.set_set, Heap.kill_kset, Int.toNat_natCast, Int.natCast_nonneg, Int.ofNat_lt, Int.ofNat_le, Int.natCast_inj, pmC, pmE, pmS, pmV, pmK, pmQ, pmL, pmX, pmF, pmO, pmA, pmR, pmW, pmB, Option.isSome_some, ft, olds_ints, olds_bools, ↓reduceIte, Nat.reduceEqDiff, reduceCtorEq, Nat.reduceAdd, Nat.reduceMul, Nat.reduceLeDiff, Nat.reduceLT, Int.reduceLE, Int.reduceLT, Int.reduceEq, Int.reduceToNat, Nat.zero_mul, Nat.zero_add, Nat.mul_one, ne_eq, not_false_eq_true, not_true_eq_false, true_and, and_true, decide_true, decide_false, Bool.not_true, Bool.not_false, Bool.false_eq_true, and_self, Nat.add_zero]
  refine pwp_up C.length (fun i σ h' => h'.f b = some ((mSt C i).1.map (PV.int .i64)) ∧ Stk h h' (σ 4) 1 (mSt C i).2.length ((mSt C i).2.map (PV.int .i64)) ∧ blkOf (σ 4) ≠ some b ∧ h.le h' ∧ σ 0 = .list false 1 C.length (C.map (.int .i64)) ∧ σ 3 = .buf b 1 0 C.length ∧ σ 12 = .list false 1 C.length (C.map (.int .i64)) ∧ σ 13 = .int .i64 C.length ∧ σ 14 = .int .i64 i) ?_ ?_
  · exact ⟨Heap.set_same _ _ _, Stk.nil _ _ _, (fun e => by cases e), Heap.le_set (Heap.le_refl _) hb, rfl, rfl, rfl, rfl, rfl⟩
  · rintro i σ h' K' hi ⟨hO, hS, hne, lh, s0, s3, s12, s13, s14⟩ next
    try simp only [s12, s13, s14, cdK_dec, or_false, false_or, Bool.and_self, Bool.and_true, Bool.true_and, Bool.and_false, Bool.false_and, Bool.not_not, Int.cast_ofNat_Int, beq_self_eq_true, Heap.set_same, Heap.set_set, Heap.kill_kset, Int.toNat_natCast, Int.natCast_nonneg, Int.ofNat_lt, Int.ofNat_le, Int.natCast_inj, pmC, pmE, pmS, pmV, pmK, pmQ, pmL, pmX, pmF, pmO, pmA, pmR, pmW, pmB, Option.isSome_some, ft, olds_ints, olds_bools, ↓reduceIte, Nat.reduceEqDiff, reduceCtorEq, Nat.reduceAdd, Nat.reduceMul, Nat.reduceLeDiff, Nat.reduceLT, Int.reduceLE, Int.reduceLT, Int.reduceEq, Int.reduceToNat, Nat.zero_mul, Nat.zero_add, Nat.mul_one, ne_eq, not_false_eq_true, not_true_eq_false, true_and, and_true, decide_true, decide_false, Bool.not_true, Bool.not_false, Bool.false_eq_true, and_self, Nat.add_zero]
    refine ⟨fun hlt => ?_, fun hge => ?_⟩
    · have hx := getm (.int .i64) C hlt
      obtain ⟨m1, m2, m3⟩ := mSt_len C i
      have hm : mSt C (i + 1) = if opensT (C.getD i default) then ((mSt C i).1.set i C.length, (mSt C i).2 ++ [(i : Int)])
        else if C.getD i default = 22 ∧ (mSt C i).2 ≠ [] then (((mSt C i).1.set ((mSt C i).2.getD ((mSt C i).2.length - 1) default).toNat i).set i ((mSt C i).2.getD ((mSt C i).2.length - 1) default), (mSt C i).2.take ((mSt C i).2.length - 1))
        else mSt C i := rfl
      generalize mSt C (i + 1) = M at *
      generalize mSt C i = M0 at *
      obtain ⟨O, S⟩ := M0
      simp only at hO hS m1 m2 m3 hm
      generalize C.getD i default = c at *
      have hw : IntKind.i64.wrap ((i : Int) + 1) = (i : Int) + 1 := wrap_in (by omega) (by omega)
      try simp only [s12, s14, hx, hlt, or_false, false_or, Bool.and_self, Bool.and_true, Bool.true_and, Bool.and_false, Bool.false_and, Bool.not_not, Int.cast_ofNat_Int, beq_self_eq_true, Heap.set_same, Heap.set_set, Heap.kill_kset, Int.toNat_natCast, Int.natCast_nonneg, Int.ofNat_lt, Int.ofNat_le, Int.natCast_inj, pmC, pmE, pmS, pmV, pmK, pmQ, pmL, pmX, pmF, pmO, pmA, pmR, pmW, pmB, Option.isSome_some, ft, olds_ints, olds_bools, ↓reduceIte, Nat.reduceEqDiff, reduceCtorEq, Nat.reduceAdd, Nat.reduceMul, Nat.reduceLeDiff, Nat.reduceLT, Int.reduceLE, Int.reduceLT, Int.reduceEq, Int.reduceToNat, Nat.zero_mul, Nat.zero_add, Nat.mul_one, ne_eq, not_false_eq_true, not_true_eq_false, true_and, and_true, decide_true, decide_false, Bool.not_true, Bool.not_false, Bool.false_eq_true, and_self, Nat.add_zero]
      refine opens _ _ ?_
      cases ho : opensT c
      · rw [ho, if_neg (by simp)] at hm
        try simp only [or_false, false_or, Bool.and_self, Bool.and_true, Bool.true_and, Bool.and_false, Bool.false_and, Bool.not_not, Int.cast_ofNat_Int, beq_self_eq_true, Heap.set_same, Heap.set_set, Heap.kill_kset, Int.toNat_natCast, Int.natCast_nonneg, Int.ofNat_lt, Int.ofNat_le, Int.natCast_inj, pmC, pmE, pmS, pmV, pmK, pmQ, pmL, pmX, pmF, pmO, pmA, pmR, pmW, pmB, Option.isSome_some, ft, olds_ints, olds_bools, ↓reduceIte, Nat.reduceEqDiff, reduceCtorEq, Nat.reduceAdd, Nat.reduceMul, Nat.reduceLeDiff, Nat.reduceLT, Int.reduceLE, Int.reduceLT, Int.reduceEq, Int.reduceToNat, Nat.zero_mul, Nat.zero_add, Nat.mul_one, ne_eq, not_false_eq_true, not_true_eq_false, true_and, and_true, decide_true, decide_false, Bool.not_true, Bool.not_false, Bool.false_eq_true, and_self, Nat.add_zero]
        by_cases h22 : c = 22
        · by_cases hS0 : S = []
          · rw [if_neg (by simp [hS0])] at hm
            subst hS0
            have e4 : σ 4 = .nils ∨ ∃ q, σ 4 = .buf q 1 0 0 := by
              rcases hS with ⟨e, _, _⟩ | ⟨q, ds, e, _⟩
              · exact .inl e
              · exact .inr ⟨q, e⟩
            rcases e4 with e4 | ⟨q, e4⟩
            all_goals
              try simp only [h22, e4, s14, hw, or_false, false_or, Bool.and_self, Bool.and_true, Bool.true_and, Bool.and_false, Bool.false_and, Bool.not_not, Int.cast_ofNat_Int, beq_self_eq_true, Heap.set_same, Heap.set_set, Heap.kill_kset, Int.toNat_natCast, Int.natCast_nonneg, Int.ofNat_lt, Int.ofNat_le, Int.natCast_inj, pmC, pmE, pmS, pmV, pmK, pmQ, pmL, pmX, pmF, pmO, pmA, pmR, pmW, pmB, Option.isSome_some, ft, olds_ints, olds_bools, ↓reduceIte, Nat.reduceEqDiff, reduceCtorEq, Nat.reduceAdd, Nat.reduceMul, Nat.reduceLeDiff, Nat.reduceLT, Int.reduceLE, Int.reduceLT, Int.reduceEq, Int.reduceToNat, Nat.zero_mul, Nat.zero_add, Nat.mul_one, ne_eq, not_false_eq_true, not_true_eq_false, true_and, and_true, decide_true, decide_false, Bool.not_true, Bool.not_false, Bool.false_eq_true, and_self, Nat.add_zero]
              exact next hlt _ _ ⟨by rw [hm]; exact hO, by rw [hm]; simpa [put] using hS, by simpa [put] using hne, lh, by simp [put, s0], by simp [put, s3], by simp [put, s12], by simp [put, s13], by simp [put]⟩
          · have hpos : 0 < S.length := List.length_pos_iff.2 hS0
            rw [if_pos ⟨h22, hS0⟩] at hm
            obtain ⟨q, e4⟩ := hS.live hpos
            rw [e4] at hS
            obtain ⟨ds, g1, g2, g3⟩ := hS.get
            have hcut := hS.cut (m := S.length - 1) (by omega)
            have hp1 : (0 : Int) < S.length := by omega
            have hw1 : IntKind.i64.wrap ((S.length : Int) - 1) = ((S.length - 1 : Nat) : Int) := by rw [wrap_in (by omega) (by omega)]; omega
            have hlast := g3 (S.length - 1) (by omega)
            rw [getm (.int .i64) S (show S.length - 1 < S.length by omega)] at hlast
            have hmem : S.getD (S.length - 1) default ∈ S := by
              have : S.length - 1 < S.length := by omega
              simp [List.getD, this]
            have hb2 := m3 _ hmem
            generalize S.getD (S.length - 1) default = la at *
            have hn1 : S.length - 1 < S.length := by omega
            have hla : la < C.length := by omega
            have hO1 : i < (O.map (PV.int .i64)).length := by simp; omega
            have hOl : (O.map (PV.int .i64)).length = C.length := by simp [m1]
            try simp only [h22, e4, hp1, hw1, g2, hlast, hn1, s3, hO, slcB_hi (Nat.le_of_lt hn1), hb2.1, hla, hlt, hOl, hw, s14, or_false, false_or, Bool.and_self, Bool.and_true, Bool.true_and, Bool.and_false, Bool.false_and, Bool.not_not, Int.cast_ofNat_Int, beq_self_eq_true, Heap.set_same, Heap.set_set, Heap.kill_kset, Int.toNat_natCast, Int.natCast_nonneg, Int.ofNat_lt, Int.ofNat_le, Int.natCast_inj, pmC, pmE, pmS, pmV, pmK, pmQ, pmL, pmX, pmF, pmO, pmA, pmR, pmW, pmB, Option.isSome_some, ft, olds_ints, olds_bools, ↓reduceIte, Nat.reduceEqDiff, reduceCtorEq, Nat.reduceAdd, Nat.reduceMul, Nat.reduceLeDiff, Nat.reduceLT, Int.reduceLE, Int.reduceLT, Int.reduceEq, Int.reduceToNat, Nat.zero_mul, Nat.zero_add, Nat.mul_one, ne_eq, not_false_eq_true, not_true_eq_false, true_and, and_true, decide_true, decide_false, Bool.not_true, Bool.not_false, Bool.false_eq_true, and_self, Nat.add_zero]
            have u1 : wr (O.map (PV.int .i64)) la.toNat [PV.int .i64 i] = (O.set la.toNat i).map (PV.int .i64) := wr_map (PV.int .i64) (i : Int) O (by omega)
            have u2 : wr ((O.set la.toNat i).map (PV.int .i64)) i [PV.int .i64 la] = ((O.set la.toNat i).set i la).map (PV.int .i64) := wr_map (PV.int .i64) la (O.set la.toNat i) (by simp; omega)
            rw [u1, u2]
            refine ⟨by omega, by simp; omega, ?_⟩
            have hqb : q ≠ b := fun e => hne (by rw [e4, e]; rfl)
            refine next hlt _ _ ⟨by rw [hm, Heap.set_same], ?_, by simp [put, blkOf]; exact hqb, Heap.le_set lh hb, by simp [put, s0], by simp [put, s3], by simp [put, s12], by simp [put, s13], by simp [put]⟩
            rw [hm]
            have e5 : (S.map (PV.int .i64)).take ((S.length - 1) * 1) = (S.take (S.length - 1)).map (PV.int .i64) := by rw [Nat.mul_one, List.map_take]
            have e6 : (S.take (S.length - 1)).length = S.length - 1 := by simp
            rw [e5] at hcut
            simp only [e6]
            simpa [put] using hcut.set (x := b) (by simp [blkOf]; exact hqb)
        · rw [if_neg (by simp [h22])] at hm
          try simp only [h22, s14, hw, or_false, false_or, Bool.and_self, Bool.and_true, Bool.true_and, Bool.and_false, Bool.false_and, Bool.not_not, Int.cast_ofNat_Int, beq_self_eq_true, Heap.set_same, Heap.set_set, Heap.kill_kset, Int.toNat_natCast, Int.natCast_nonneg, Int.ofNat_lt, Int.ofNat_le, Int.natCast_inj, pmC, pmE, pmS, pmV, pmK, pmQ, pmL, pmX, pmF, pmO, pmA, pmR, pmW, pmB, Option.isSome_some, ft, olds_ints, olds_bools, ↓reduceIte, Nat.reduceEqDiff, reduceCtorEq, Nat.reduceAdd, Nat.reduceMul, Nat.reduceLeDiff, Nat.reduceLT, Int.reduceLE, Int.reduceLT, Int.reduceEq, Int.reduceToNat, Nat.zero_mul, Nat.zero_add, Nat.mul_one, ne_eq, not_false_eq_true, not_true_eq_false, true_and, and_true, decide_true, decide_false, Bool.not_true, Bool.not_false, Bool.false_eq_true, and_self, Nat.add_zero]
          exact next hlt _ _ ⟨by rw [hm]; exact hO, by rw [hm]; simpa [put] using hS, by simpa [put] using hne, lh, by simp [put, s0], by simp [put, s3], by simp [put, s12], by simp [put, s13], by simp [put]⟩
      · rw [ho, if_pos rfl] at hm
        try simp only [or_false, false_or, Bool.and_self, Bool.and_true, Bool.true_and, Bool.and_false, Bool.false_and, Bool.not_not, Int.cast_ofNat_Int, beq_self_eq_true, Heap.set_same, Heap.set_set, Heap.kill_kset, Int.toNat_natCast, Int.natCast_nonneg, Int.ofNat_lt, Int.ofNat_le, Int.natCast_inj, pmC, pmE, pmS, pmV, pmK, pmQ, pmL, pmX, pmF, pmO, pmA, pmR, pmW, pmB, Option.isSome_some, ft, olds_ints, olds_bools, ↓reduceIte, Nat.reduceEqDiff, reduceCtorEq, Nat.reduceAdd, Nat.reduceMul, Nat.reduceLeDiff, Nat.reduceLT, Int.reduceLE, Int.reduceLT, Int.reduceEq, Int.reduceToNat, Nat.zero_mul, Nat.zero_add, Nat.mul_one, ne_eq, not_false_eq_true, not_true_eq_false, true_and, and_true, decide_true, decide_false, Bool.not_true, Bool.not_false, Bool.false_eq_true, and_self, Nat.add_zero]
        refine hS.app lh (by decide) rfl (by omega) (by simp only [maxLen]; omega) fun v' h3 a' l' sd => ?_
        have z := sd b _ hO hne
        have hO3 := z.1
        have hOl : (O.map (PV.int .i64)).length = C.length := by simp [m1]
        try simp only [s0, s3, s14, hlt, hO3, hOl, hw, or_false, false_or, Bool.and_self, Bool.and_true, Bool.true_and, Bool.and_false, Bool.false_and, Bool.not_not, Int.cast_ofNat_Int, beq_self_eq_true, Heap.set_same, Heap.set_set, Heap.kill_kset, Int.toNat_natCast, Int.natCast_nonneg, Int.ofNat_lt, Int.ofNat_le, Int.natCast_inj, pmC, pmE, pmS, pmV, pmK, pmQ, pmL, pmX, pmF, pmO, pmA, pmR, pmW, pmB, Option.isSome_some, ft, olds_ints, olds_bools, ↓reduceIte, Nat.reduceEqDiff, reduceCtorEq, Nat.reduceAdd, Nat.reduceMul, Nat.reduceLeDiff, Nat.reduceLT, Int.reduceLE, Int.reduceLT, Int.reduceEq, Int.reduceToNat, Nat.zero_mul, Nat.zero_add, Nat.mul_one, ne_eq, not_false_eq_true, not_true_eq_false, true_and, and_true, decide_true, decide_false, Bool.not_true, Bool.not_false, Bool.false_eq_true, and_self, Nat.add_zero]
        have u1 : wr (O.map (PV.int .i64)) i [PV.int .i64 C.length] = (O.set i C.length).map (PV.int .i64) := wr_map (PV.int .i64) (C.length : Int) O (by omega)
        rw [u1]
        refine ⟨by omega, ?_⟩
        refine next hlt _ _ ⟨by rw [hm, Heap.set_same], ?_, by simpa [put] using z.2, Heap.le_set l' hb, by simp [put, s0], by simp [put, s3], by simp [put, s12], by simp [put, s13], by simp [put]⟩
        rw [hm]
        simpa [put] using a'.set (x := b) z.2
    · have hil : i = C.length := by omega
      subst hil
      try simp only [s3, or_false, false_or, Bool.and_self, Bool.and_true, Bool.true_and, Bool.and_false, Bool.false_and, Bool.not_not, Int.cast_ofNat_Int, beq_self_eq_true, Heap.set_same, Heap.set_set, Heap.kill_kset, Int.toNat_natCast, Int.natCast_nonneg, Int.ofNat_lt, Int.ofNat_le, Int.natCast_inj, pmC, pmE, pmS, pmV, pmK, pmQ, pmL, pmX, pmF, pmO, pmA, pmR, pmW, pmB, Option.isSome_some, ft, olds_ints, olds_bools, ↓reduceIte, Nat.reduceEqDiff, reduceCtorEq, Nat.reduceAdd, Nat.reduceMul, Nat.reduceLeDiff, Nat.reduceLT, Int.reduceLE, Int.reduceLT, Int.reduceEq, Int.reduceToNat, Nat.zero_mul, Nat.zero_add, Nat.mul_one, ne_eq, not_false_eq_true, not_true_eq_false, true_and, and_true, decide_true, decide_false, Bool.not_true, Bool.not_false, Bool.false_eq_true, and_self, Nat.add_zero]
      exact (Acc.buf hb hO (by simp [(mSt_len C C.length).1]) : Acc h h' (.buf b 1 0 C.length) 1 C.length _).fin lh (by rw [olds_ints]; exact k)
end Go.Proofs.Ytenmbhjjnfmlhaa
