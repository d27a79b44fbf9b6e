/-
  Codes the other way round: the document's answer, walked.
  Conditions: none but those that each sentence tells.
-/
import Derived.Test.YtjabiegaeflhjaaFlp3
namespace Go.Proofs.Ytjabiegaeflhjaa
open Go.Pm
set_option maxRecDepth 100000
set_option linter.unusedSimpArgs false
set_option linter.unusedVariables false

def mf (mi : Bool) (c : Int) : Int := if mi then mirT c else c
theorem trn_mf (m mi : Bool) (X : List Int) : (trn m X).map (mf mi) = if mi then (trn m X).map mirT else trn m X := by
  cases mi
  · have : mf false = id := by funext c; rfl
    rw [this, List.map_id]; rfl
  · rfl
/-- What the first j chunks from the end on give. -/
def preL (X : List Int) (L : List (Int × Int)) (j : Nat) : List Int := (L.reverse.take j).flatMap (cutS X)
theorem preL_len (m : Bool) (X : List Int) (j : Nat) : (preL X (chk m X) j).length ≤ X.length := by
  have e := congrArg List.length (congrArg (List.flatMap (cutS X)) (List.take_append_drop j (chk m X).reverse))
  rw [List.flatMap_append, List.length_append, show (chk m X).reverse.flatMap (cutS X) = trn m X from rfl, trn_len] at e
  unfold preL; omega
theorem preL_succ (X : List Int) (L : List (Int × Int)) {j : Nat} (h : j < L.length) : preL X L (j + 1) = preL X L j ++ cutS X (L.getD (L.length - 1 - j) default) := by
  unfold preL
  rw [List.take_add_one, List.flatMap_append, List.getElem?_reverse h, List.getD, List.getElem?_eq_getElem (by omega)]
  simp
theorem preL_all (m : Bool) (X : List Int) : preL X (chk m X) (chk m X).length = trn m X := by
  unfold preL trn
  rw [List.take_of_length_le (by simp)]
theorem cutS_get (X : List Int) {q : Int × Int} (h0 : 0 ≤ q.1) (h1 : q.1 ≤ q.2) (h2 : q.2 ≤ X.length) {t : Nat} (ht : t < (cutS X q).length) : (cutS X q).getD t default = X.getD (q.1.toNat + t) default := by
  rw [cutS_len X h0 h1 h2] at ht
  unfold cutS
  simp only [List.getD]
  rw [List.getElem?_take, if_pos ht, List.getElem?_drop]
theorem PlacesRN (h : Heap) {K : PV → Heap → Prop} (k : K .nils h) : CanP Try.prog 43 [.nils] h K := by
  refine e43 rfl ?_
  try simp only [c43, r43_0, r43_1, r43_2, r43_3, r43_4, r43_5, r43_6, r43_7, or_false, false_or, Bool.and_self, Bool.and_true, Bool.true_and, Bool.and_false, Bool.false_and, Bool.not_not, Int.cast_ofNat_Int, beq_self_eq_true, Heap.set_same, Heap.set_set, Heap.kill_kset, Int.toNat_natCast, Int.natCast_nonneg, Int.ofNat_lt, Int.ofNat_le, Int.natCast_inj, pmC, pmE, pmS, pmV, pmK, pmQ, pmL, pmX, pmF, pmO, pmA, pmR, pmW, pmB, Option.isSome_some, ft, olds_ints, olds_bools, ↓reduceIte, Nat.reduceEqDiff, reduceCtorEq, Nat.reduceAdd, Nat.reduceMul, Nat.reduceLeDiff, Nat.reduceLT, Int.reduceLE, Int.reduceLT, Int.reduceEq, Int.reduceToNat, Nat.zero_mul, Nat.zero_add, Nat.mul_one, ne_eq, not_false_eq_true, not_true_eq_false, true_and, and_true, decide_true, decide_false, Bool.not_true, Bool.not_false, Bool.false_eq_true, and_self, Nat.add_zero]
  refine pwp_fall (fun m σ h9 => h9 = h ∧ σ 0 = .nils ∧ σ 3 = .nils ∧ σ 4 = .int .i64 0) 0 ⟨rfl, rfl, rfl, rfl⟩ ?_
  rintro m σ h9 K9 ⟨rfl, s0, s3, s4⟩ -
  try simp only [s0, s3, s4, or_false, false_or, Bool.and_self, Bool.and_true, Bool.true_and, Bool.and_false, Bool.false_and, Bool.not_not, Int.cast_ofNat_Int, beq_self_eq_true, Heap.set_same, Heap.set_set, Heap.kill_kset, Int.toNat_natCast, Int.natCast_nonneg, Int.ofNat_lt, Int.ofNat_le, Int.natCast_inj, pmC, pmE, pmS, pmV, pmK, pmQ, pmL, pmX, pmF, pmO, pmA, pmR, pmW, pmB, Option.isSome_some, ft, olds_ints, olds_bools, ↓reduceIte, Nat.reduceEqDiff, reduceCtorEq, Nat.reduceAdd, Nat.reduceMul, Nat.reduceLeDiff, Nat.reduceLT, Int.reduceLE, Int.reduceLT, Int.reduceEq, Int.reduceToNat, Nat.zero_mul, Nat.zero_add, Nat.mul_one, ne_eq, not_false_eq_true, not_true_eq_false, true_and, and_true, decide_true, decide_false, Bool.not_true, Bool.not_false, Bool.false_eq_true, and_self, Nat.add_zero]
  exact finK_le (Heap.le_refl _) k
theorem CodesRN (h : Heap) {K : PV → Heap → Prop} (k : K .nils h) : CanP Try.prog 29 [.nils] h K := by
  refine e29 rfl ?_
  try simp only [c29, r29_0, r29_1, r29_2, r29_3, r29_4, r29_5, r29_6, r29_7, or_false, false_or, Bool.and_self, Bool.and_true, Bool.true_and, Bool.and_false, Bool.false_and, Bool.not_not, Int.cast_ofNat_Int, beq_self_eq_true, Heap.set_same, Heap.set_set, Heap.kill_kset, Int.toNat_natCast, Int.natCast_nonneg, Int.ofNat_lt, Int.ofNat_le, Int.natCast_inj, pmC, pmE, pmS, pmV, pmK, pmQ, pmL, pmX, pmF, pmO, pmA, pmR, pmW, pmB, Option.isSome_some, ft, olds_ints, olds_bools, ↓reduceIte, Nat.reduceEqDiff, reduceCtorEq, Nat.reduceAdd, Nat.reduceMul, Nat.reduceLeDiff, Nat.reduceLT, Int.reduceLE, Int.reduceLT, Int.reduceEq, Int.reduceToNat, Nat.zero_mul, Nat.zero_add, Nat.mul_one, ne_eq, not_false_eq_true, not_true_eq_false, true_and, and_true, decide_true, decide_false, Bool.not_true, Bool.not_false, Bool.false_eq_true, and_self, Nat.add_zero]
  refine PlacesRN _ ?_
  try simp only [or_false, false_or, Bool.and_self, Bool.and_true, Bool.true_and, Bool.and_false, Bool.false_and, Bool.not_not, Int.cast_ofNat_Int, beq_self_eq_true, Heap.set_same, Heap.set_set, Heap.kill_kset, Int.toNat_natCast, Int.natCast_nonneg, Int.ofNat_lt, Int.ofNat_le, Int.natCast_inj, pmC, pmE, pmS, pmV, pmK, pmQ, pmL, pmX, pmF, pmO, pmA, pmR, pmW, pmB, Option.isSome_some, ft, olds_ints, olds_bools, ↓reduceIte, Nat.reduceEqDiff, reduceCtorEq, Nat.reduceAdd, Nat.reduceMul, Nat.reduceLeDiff, Nat.reduceLT, Int.reduceLE, Int.reduceLT, Int.reduceEq, Int.reduceToNat, Nat.zero_mul, Nat.zero_add, Nat.mul_one, ne_eq, not_false_eq_true, not_true_eq_false, true_and, and_true, decide_true, decide_false, Bool.not_true, Bool.not_false, Bool.false_eq_true, and_self, Nat.add_zero]
  refine pwp_fall (fun m σ h9 => h9 = h ∧ σ 3 = .nils ∧ σ 4 = .nils ∧ σ 5 = .int .i64 0) 0 ⟨rfl, rfl, rfl, rfl⟩ ?_
  rintro m σ h9 K9 ⟨rfl, s3, s4, s5⟩ -
  try simp only [s3, s4, s5, or_false, false_or, Bool.and_self, Bool.and_true, Bool.true_and, Bool.and_false, Bool.false_and, Bool.not_not, Int.cast_ofNat_Int, beq_self_eq_true, Heap.set_same, Heap.set_set, Heap.kill_kset, Int.toNat_natCast, Int.natCast_nonneg, Int.ofNat_lt, Int.ofNat_le, Int.natCast_inj, pmC, pmE, pmS, pmV, pmK, pmQ, pmL, pmX, pmF, pmO, pmA, pmR, pmW, pmB, Option.isSome_some, ft, olds_ints, olds_bools, ↓reduceIte, Nat.reduceEqDiff, reduceCtorEq, Nat.reduceAdd, Nat.reduceMul, Nat.reduceLeDiff, Nat.reduceLT, Int.reduceLE, Int.reduceLT, Int.reduceEq, Int.reduceToNat, Nat.zero_mul, Nat.zero_add, Nat.mul_one, ne_eq, not_false_eq_true, not_true_eq_false, true_and, and_true, decide_true, decide_false, Bool.not_true, Bool.not_false, Bool.false_eq_true, and_self, Nat.add_zero]
  exact finK_le (Heap.le_refl _) k
theorem RevR (fr : Bool) (X : List Int) (hl : X.length ≤ 1000000) (m mi st : Bool) (h : Heap) {K : PV → Heap → Prop} (k : K (.list true 1 (revT m mi st X).length ((revT m mi st X).map (.int .i64))) h) :
    CanP Try.prog 10 [.list fr 1 X.length (X.map (.int .i64)), .bool m, .bool mi, .bool st] h K := by
  refine e10 rfl ?_
  try simp only [c10, r10_0, r10_1, r10_2, r10_3, r10_4, r10_5, r10_6, r10_7, r10_8, r10_9, r10_10, r10_11, r10_12, r10_13, r10_14, r10_15, or_false, false_or, Bool.and_self, Bool.and_true, Bool.true_and, Bool.and_false, Bool.false_and, Bool.not_not, Int.cast_ofNat_Int, beq_self_eq_true, Heap.set_same, Heap.set_set, Heap.kill_kset, Int.toNat_natCast, Int.natCast_nonneg, Int.ofNat_lt, Int.ofNat_le, Int.natCast_inj, pmC, pmE, pmS, pmV, pmK, pmQ, pmL, pmX, pmF, pmO, pmA, pmR, pmW, pmB, Option.isSome_some, ft, olds_ints, olds_bools, ↓reduceIte, Nat.reduceEqDiff, reduceCtorEq, Nat.reduceAdd, Nat.reduceMul, Nat.reduceLeDiff, Nat.reduceLT, Int.reduceLE, Int.reduceLT, Int.reduceEq, Int.reduceToNat, Nat.zero_mul, Nat.zero_add, Nat.mul_one, ne_eq, not_false_eq_true, not_true_eq_false, true_and, and_true, decide_true, decide_false, Bool.not_true, Bool.not_false, Bool.false_eq_true, and_self, Nat.add_zero]
  refine ChunksR false X hl m _ ?_
  have hcin := chk_in m X
  have hcl := chI_len m X X.length
  have hpl := preL_len m X
  have hpa := preL_all m X
  rw [show chI m X X.length = chk m X from rfl] at hcl
  generalize chk m X = L at *
  have hw0 : IntKind.i64.wrap ((L.length : Int) - 1) = (L.length : Int) - 1 := wrap_in (by omega) (by omega)
  try simp only [hw0, or_false, false_or, Bool.and_self, Bool.and_true, Bool.true_and, Bool.and_false, Bool.false_and, Bool.not_not, Int.cast_ofNat_Int, beq_self_eq_true, Heap.set_same, Heap.set_set, Heap.kill_kset, Int.toNat_natCast, Int.natCast_nonneg, Int.ofNat_lt, Int.ofNat_le, Int.natCast_inj, pmC, pmE, pmS, pmV, pmK, pmQ, pmL, pmX, pmF, pmO, pmA, pmR, pmW, pmB, Option.isSome_some, ft, olds_ints, olds_bools, ↓reduceIte, Nat.reduceEqDiff, reduceCtorEq, Nat.reduceAdd, Nat.reduceMul, Nat.reduceLeDiff, Nat.reduceLT, Int.reduceLE, Int.reduceLT, Int.reduceEq, Int.reduceToNat, Nat.zero_mul, Nat.zero_add, Nat.mul_one, ne_eq, not_false_eq_true, not_true_eq_false, true_and, and_true, decide_true, decide_false, Bool.not_true, Bool.not_false, Bool.false_eq_true, and_self, Nat.add_zero]
  refine pwp_up L.length (fun j σ h' => Acc h h' (σ 9) 1 (preL X L j).length (((preL X L j).map (mf mi)).map (.int .i64)) ∧ h.le h' ∧ σ 0 = .list false 1 X.length (X.map (.int .i64)) ∧ σ 2 = .bool mi ∧ σ 3 = .bool st ∧ σ 10 = .list true 2 L.length (L.flatMap sp) ∧ σ 11 = .int .i64 ((L.length : Int) - 1 - j)) ?_ ?_
  · exact ⟨Acc.nil _ _ _, Heap.le_refl _, rfl, rfl, rfl, rfl, by simp [put]⟩
  rintro j σ h' K' hj ⟨a, lh, s0, s2, s3, s10, s11⟩ next
  rcases Nat.lt_or_ge j L.length with hlt | hge
  · obtain ⟨i, hi⟩ : ∃ i, i = L.length - 1 - j := ⟨_, rfl⟩
    have hin : i < L.length := by omega
    have ei : (L.length : Int) - 1 - j = (i : Int) := by omega
    rw [ei] at s11
    have hi0 : (0 : Int) ≤ (i : Int) := by omega
    have hq := hcin _ (get_mem L hin)
    have hsp := sp_at L hin
    have hsu := preL_succ X L hlt
    rw [← hi] at hsu
    have hp1 := hpl (j + 1)
    rw [hsu, List.length_append] at hp1
    have hle : i * 2 + 2 ≤ (L.flatMap sp).length := by rw [flat_length sp 2 sp_len]; omega
    have hww : IntKind.i64.wrap ((i : Int) - 1) = (i : Int) - 1 := wrap_in (by omega) (by omega)
    generalize L.getD i default = q at *
    have hqc := cutS_len X hq.1 (by omega) hq.2.2
    have hx := hsp.1
    have hy := hsp.2
    try simp only [s0, s10, s11, hi0, hin, hle, hx, or_false, false_or, Bool.and_self, Bool.and_true, Bool.true_and, Bool.and_false, Bool.false_and, Bool.not_not, Int.cast_ofNat_Int, beq_self_eq_true, Heap.set_same, Heap.set_set, Heap.kill_kset, Int.toNat_natCast, Int.natCast_nonneg, Int.ofNat_lt, Int.ofNat_le, Int.natCast_inj, pmC, pmE, pmS, pmV, pmK, pmQ, pmL, pmX, pmF, pmO, pmA, pmR, pmW, pmB, Option.isSome_some, ft, olds_ints, olds_bools, ↓reduceIte, Nat.reduceEqDiff, reduceCtorEq, Nat.reduceAdd, Nat.reduceMul, Nat.reduceLeDiff, Nat.reduceLT, Int.reduceLE, Int.reduceLT, Int.reduceEq, Int.reduceToNat, Nat.zero_mul, Nat.zero_add, Nat.mul_one, ne_eq, not_false_eq_true, not_true_eq_false, true_and, and_true, decide_true, decide_false, Bool.not_true, Bool.not_false, Bool.false_eq_true, and_self, Nat.add_zero]
    refine pwp_up (cutS X q).length (fun t σ h' => Acc h h' (σ 9) 1 ((preL X L j).length + t) (((preL X L j ++ (cutS X q).take t).map (mf mi)).map (.int .i64)) ∧ h.le h' ∧ σ 0 = .list false 1 X.length (X.map (.int .i64)) ∧ σ 2 = .bool mi ∧ σ 3 = .bool st ∧ σ 10 = .list true 2 L.length (L.flatMap sp) ∧ σ 11 = .int .i64 i ∧ σ 12 = .int .i64 (q.1 + t)) ?_ ?_
    · exact ⟨by simpa [put] using a, lh, by simp [put, s0], by simp [put, s2], by simp [put, s3], by simp [put, s10], by simp [put, s11], by simp [put]⟩
    rintro t σ h' K9 ht ⟨a, lh, s0, s2, s3, s10, s11, s12⟩ next2
    rcases Nat.lt_or_ge t (cutS X q).length with hlt2 | hge2
    · have hc : q.1 + (t : Int) < q.2 := by omega
      have hget := cutS_get X hq.1 (by omega) hq.2.2 hlt2
      have e12 : q.1 + (t : Int) = ((q.1.toNat + t : Nat) : Int) := by omega
      have hx2 := getm (PV.int .i64) X (i := q.1.toNat + t) (by omega)
      rw [← hget] at hx2
      have htk : (preL X L j ++ (cutS X q).take (t + 1)).map (mf mi) = (preL X L j ++ (cutS X q).take t).map (mf mi) ++ [mf mi ((cutS X q).getD t default)] := by
        have := take_succ_map (mf mi) (cutS X q) hlt2
        rw [List.map_append, List.map_append, this, List.append_assoc]
      have hw : IntKind.i64.wrap (((q.1.toNat + t : Nat) : Int) + 1) = ((q.1.toNat + t : Nat) : Int) + 1 := wrap_in (by omega) (by omega)
      have hltX : q.1.toNat + t < X.length := by omega
      have hc' : ((q.1.toNat + t : Nat) : Int) < q.2 := by omega
      generalize (cutS X q).getD t default = c at *
      rw [e12] at s12
      cases mi
      · try simp only [s0, s2, s10, s11, s12, hi0, hin, hle, hy, hc', hx2, hltX, or_false, false_or, Bool.and_self, Bool.and_true, Bool.true_and, Bool.and_false, Bool.false_and, Bool.not_not, Int.cast_ofNat_Int, beq_self_eq_true, Heap.set_same, Heap.set_set, Heap.kill_kset, Int.toNat_natCast, Int.natCast_nonneg, Int.ofNat_lt, Int.ofNat_le, Int.natCast_inj, pmC, pmE, pmS, pmV, pmK, pmQ, pmL, pmX, pmF, pmO, pmA, pmR, pmW, pmB, Option.isSome_some, ft, olds_ints, olds_bools, ↓reduceIte, Nat.reduceEqDiff, reduceCtorEq, Nat.reduceAdd, Nat.reduceMul, Nat.reduceLeDiff, Nat.reduceLT, Int.reduceLE, Int.reduceLT, Int.reduceEq, Int.reduceToNat, Nat.zero_mul, Nat.zero_add, Nat.mul_one, ne_eq, not_false_eq_true, not_true_eq_false, true_and, and_true, decide_true, decide_false, Bool.not_true, Bool.not_false, Bool.false_eq_true, and_self, Nat.add_zero]
        refine a.app lh (by decide) rfl (by omega) (by simp only [maxLen]; omega) fun v' h4 a4 l4 sd => ?_
        try simp only [s12, hw, or_false, false_or, Bool.and_self, Bool.and_true, Bool.true_and, Bool.and_false, Bool.false_and, Bool.not_not, Int.cast_ofNat_Int, beq_self_eq_true, Heap.set_same, Heap.set_set, Heap.kill_kset, Int.toNat_natCast, Int.natCast_nonneg, Int.ofNat_lt, Int.ofNat_le, Int.natCast_inj, pmC, pmE, pmS, pmV, pmK, pmQ, pmL, pmX, pmF, pmO, pmA, pmR, pmW, pmB, Option.isSome_some, ft, olds_ints, olds_bools, ↓reduceIte, Nat.reduceEqDiff, reduceCtorEq, Nat.reduceAdd, Nat.reduceMul, Nat.reduceLeDiff, Nat.reduceLT, Int.reduceLE, Int.reduceLT, Int.reduceEq, Int.reduceToNat, Nat.zero_mul, Nat.zero_add, Nat.mul_one, ne_eq, not_false_eq_true, not_true_eq_false, true_and, and_true, decide_true, decide_false, Bool.not_true, Bool.not_false, Bool.false_eq_true, and_self, Nat.add_zero]
        refine next2 hlt2 _ _ ⟨?_, l4, by simp [put, s0], by simp [put, s2], by simp [put, s3], by simp [put, s10], by simp [put, s11], by simp [put]; omega⟩
        rw [htk, List.map_append]
        simpa [put, mf, Nat.add_assoc] using a4
      · try simp only [s0, s2, s10, s11, s12, hi0, hin, hle, hy, hc', hx2, hltX, or_false, false_or, Bool.and_self, Bool.and_true, Bool.true_and, Bool.and_false, Bool.false_and, Bool.not_not, Int.cast_ofNat_Int, beq_self_eq_true, Heap.set_same, Heap.set_set, Heap.kill_kset, Int.toNat_natCast, Int.natCast_nonneg, Int.ofNat_lt, Int.ofNat_le, Int.natCast_inj, pmC, pmE, pmS, pmV, pmK, pmQ, pmL, pmX, pmF, pmO, pmA, pmR, pmW, pmB, Option.isSome_some, ft, olds_ints, olds_bools, ↓reduceIte, Nat.reduceEqDiff, reduceCtorEq, Nat.reduceAdd, Nat.reduceMul, Nat.reduceLeDiff, Nat.reduceLT, Int.reduceLE, Int.reduceLT, Int.reduceEq, Int.reduceToNat, Nat.zero_mul, Nat.zero_add, Nat.mul_one, ne_eq, not_false_eq_true, not_true_eq_false, true_and, and_true, decide_true, decide_false, Bool.not_true, Bool.not_false, Bool.false_eq_true, and_self, Nat.add_zero]
        refine MirrorR _ _ ?_
        try simp only [or_false, false_or, Bool.and_self, Bool.and_true, Bool.true_and, Bool.and_false, Bool.false_and, Bool.not_not, Int.cast_ofNat_Int, beq_self_eq_true, Heap.set_same, Heap.set_set, Heap.kill_kset, Int.toNat_natCast, Int.natCast_nonneg, Int.ofNat_lt, Int.ofNat_le, Int.natCast_inj, pmC, pmE, pmS, pmV, pmK, pmQ, pmL, pmX, pmF, pmO, pmA, pmR, pmW, pmB, Option.isSome_some, ft, olds_ints, olds_bools, ↓reduceIte, Nat.reduceEqDiff, reduceCtorEq, Nat.reduceAdd, Nat.reduceMul, Nat.reduceLeDiff, Nat.reduceLT, Int.reduceLE, Int.reduceLT, Int.reduceEq, Int.reduceToNat, Nat.zero_mul, Nat.zero_add, Nat.mul_one, ne_eq, not_false_eq_true, not_true_eq_false, true_and, and_true, decide_true, decide_false, Bool.not_true, Bool.not_false, Bool.false_eq_true, and_self, Nat.add_zero]
        refine a.app lh (by decide) rfl (by omega) (by simp only [maxLen]; omega) fun v' h4 a4 l4 sd => ?_
        try simp only [s12, hw, or_false, false_or, Bool.and_self, Bool.and_true, Bool.true_and, Bool.and_false, Bool.false_and, Bool.not_not, Int.cast_ofNat_Int, beq_self_eq_true, Heap.set_same, Heap.set_set, Heap.kill_kset, Int.toNat_natCast, Int.natCast_nonneg, Int.ofNat_lt, Int.ofNat_le, Int.natCast_inj, pmC, pmE, pmS, pmV, pmK, pmQ, pmL, pmX, pmF, pmO, pmA, pmR, pmW, pmB, Option.isSome_some, ft, olds_ints, olds_bools, ↓reduceIte, Nat.reduceEqDiff, reduceCtorEq, Nat.reduceAdd, Nat.reduceMul, Nat.reduceLeDiff, Nat.reduceLT, Int.reduceLE, Int.reduceLT, Int.reduceEq, Int.reduceToNat, Nat.zero_mul, Nat.zero_add, Nat.mul_one, ne_eq, not_false_eq_true, not_true_eq_false, true_and, and_true, decide_true, decide_false, Bool.not_true, Bool.not_false, Bool.false_eq_true, and_self, Nat.add_zero]
        refine next2 hlt2 _ _ ⟨?_, l4, by simp [put, s0], by simp [put, s2], by simp [put, s3], by simp [put, s10], by simp [put, s11], by simp [put]; omega⟩
        rw [htk, List.map_append]
        simpa [put, mf, Nat.add_assoc] using a4
    · have e : t = (cutS X q).length := by omega
      have hc : ¬ (q.1 + (t : Int) < q.2) := by omega
      rw [e, List.take_length, ← hsu] at a
      try simp only [s10, s11, s12, hi0, hin, hle, hy, hc, hww, or_false, false_or, Bool.and_self, Bool.and_true, Bool.true_and, Bool.and_false, Bool.false_and, Bool.not_not, Int.cast_ofNat_Int, beq_self_eq_true, Heap.set_same, Heap.set_set, Heap.kill_kset, Int.toNat_natCast, Int.natCast_nonneg, Int.ofNat_lt, Int.ofNat_le, Int.natCast_inj, pmC, pmE, pmS, pmV, pmK, pmQ, pmL, pmX, pmF, pmO, pmA, pmR, pmW, pmB, Option.isSome_some, ft, olds_ints, olds_bools, ↓reduceIte, Nat.reduceEqDiff, reduceCtorEq, Nat.reduceAdd, Nat.reduceMul, Nat.reduceLeDiff, Nat.reduceLT, Int.reduceLE, Int.reduceLT, Int.reduceEq, Int.reduceToNat, Nat.zero_mul, Nat.zero_add, Nat.mul_one, ne_eq, not_false_eq_true, not_true_eq_false, true_and, and_true, decide_true, decide_false, Bool.not_true, Bool.not_false, Bool.false_eq_true, and_self, Nat.add_zero]
      refine next hlt _ _ ⟨?_, lh, by simp [put, s0], by simp [put, s2], by simp [put, s3], by simp [put, s10], by simp [put]; omega⟩
      rw [hsu, List.length_append]
      simpa [put, hsu] using a
  · have e : j = L.length := by omega
    subst e
    have hneg : ¬ (0 : Int) ≤ (L.length : Int) - 1 - L.length := by omega
    rw [hpa] at a
    have hrev : ∀ st, revT m mi st X = if st then codesK ((trn m X).map (mf mi)) else (trn m X).map (mf mi) := fun st => by rw [trn_mf]; rfl
    have hY : ((trn m X).map (mf mi)).length = X.length := by rw [List.length_map, trn_len]
    have hY2 := trn_len m X
    cases st
    · try simp only [s3, s11, hneg, or_false, false_or, Bool.and_self, Bool.and_true, Bool.true_and, Bool.and_false, Bool.false_and, Bool.not_not, Int.cast_ofNat_Int, beq_self_eq_true, Heap.set_same, Heap.set_set, Heap.kill_kset, Int.toNat_natCast, Int.natCast_nonneg, Int.ofNat_lt, Int.ofNat_le, Int.natCast_inj, pmC, pmE, pmS, pmV, pmK, pmQ, pmL, pmX, pmF, pmO, pmA, pmR, pmW, pmB, Option.isSome_some, ft, olds_ints, olds_bools, ↓reduceIte, Nat.reduceEqDiff, reduceCtorEq, Nat.reduceAdd, Nat.reduceMul, Nat.reduceLeDiff, Nat.reduceLT, Int.reduceLE, Int.reduceLT, Int.reduceEq, Int.reduceToNat, Nat.zero_mul, Nat.zero_add, Nat.mul_one, ne_eq, not_false_eq_true, not_true_eq_false, true_and, and_true, decide_true, decide_false, Bool.not_true, Bool.not_false, Bool.false_eq_true, and_self, Nat.add_zero]
      refine a.fin lh ?_
      rw [olds_ints, hY2]
      rw [hrev] at k
      simp only [Bool.false_eq_true, if_false] at k
      rw [hY] at k
      exact k
    · rw [hrev] at k
      simp only [if_true] at k
      rw [hY2] at a
      generalize (trn m X).map (mf mi) = Y at *
      rcases a with ⟨s9, e0, _⟩ | ⟨b, s9, hn, hb, _⟩
      · have hYn : Y = [] := List.eq_nil_of_length_eq_zero (by omega)
        subst hYn
        try simp only [s3, s9, s11, hneg, or_false, false_or, Bool.and_self, Bool.and_true, Bool.true_and, Bool.and_false, Bool.false_and, Bool.not_not, Int.cast_ofNat_Int, beq_self_eq_true, Heap.set_same, Heap.set_set, Heap.kill_kset, Int.toNat_natCast, Int.natCast_nonneg, Int.ofNat_lt, Int.ofNat_le, Int.natCast_inj, pmC, pmE, pmS, pmV, pmK, pmQ, pmL, pmX, pmF, pmO, pmA, pmR, pmW, pmB, Option.isSome_some, ft, olds_ints, olds_bools, ↓reduceIte, Nat.reduceEqDiff, reduceCtorEq, Nat.reduceAdd, Nat.reduceMul, Nat.reduceLeDiff, Nat.reduceLT, Int.reduceLE, Int.reduceLT, Int.reduceEq, Int.reduceToNat, Nat.zero_mul, Nat.zero_add, Nat.mul_one, ne_eq, not_false_eq_true, not_true_eq_false, true_and, and_true, decide_true, decide_false, Bool.not_true, Bool.not_false, Bool.false_eq_true, and_self, Nat.add_zero]
        refine CodesRN _ ?_
        try simp only [or_false, false_or, Bool.and_self, Bool.and_true, Bool.true_and, Bool.and_false, Bool.false_and, Bool.not_not, Int.cast_ofNat_Int, beq_self_eq_true, Heap.set_same, Heap.set_set, Heap.kill_kset, Int.toNat_natCast, Int.natCast_nonneg, Int.ofNat_lt, Int.ofNat_le, Int.natCast_inj, pmC, pmE, pmS, pmV, pmK, pmQ, pmL, pmX, pmF, pmO, pmA, pmR, pmW, pmB, Option.isSome_some, ft, olds_ints, olds_bools, ↓reduceIte, Nat.reduceEqDiff, reduceCtorEq, Nat.reduceAdd, Nat.reduceMul, Nat.reduceLeDiff, Nat.reduceLT, Int.reduceLE, Int.reduceLT, Int.reduceEq, Int.reduceToNat, Nat.zero_mul, Nat.zero_add, Nat.mul_one, ne_eq, not_false_eq_true, not_true_eq_false, true_and, and_true, decide_true, decide_false, Bool.not_true, Bool.not_false, Bool.false_eq_true, and_self, Nat.add_zero]
        exact (Acc.nil _ _ 1).fin lh k
      · have hyl : X.length ≤ (Y.map (PV.int .i64)).length := by rw [List.length_map]; omega
        have hto : (Y.map (PV.int .i64)).take X.length = Y.map (PV.int .i64) := List.take_of_length_le (by rw [List.length_map]; omega)
        try simp only [s3, s9, s11, hneg, hb, hyl, hto, or_false, false_or, Bool.and_self, Bool.and_true, Bool.true_and, Bool.and_false, Bool.false_and, Bool.not_not, Int.cast_ofNat_Int, beq_self_eq_true, Heap.set_same, Heap.set_set, Heap.kill_kset, Int.toNat_natCast, Int.natCast_nonneg, Int.ofNat_lt, Int.ofNat_le, Int.natCast_inj, pmC, pmE, pmS, pmV, pmK, pmQ, pmL, pmX, pmF, pmO, pmA, pmR, pmW, pmB, Option.isSome_some, ft, olds_ints, olds_bools, ↓reduceIte, Nat.reduceEqDiff, reduceCtorEq, Nat.reduceAdd, Nat.reduceMul, Nat.reduceLeDiff, Nat.reduceLT, Int.reduceLE, Int.reduceLT, Int.reduceEq, Int.reduceToNat, Nat.zero_mul, Nat.zero_add, Nat.mul_one, ne_eq, not_false_eq_true, not_true_eq_false, true_and, and_true, decide_true, decide_false, Bool.not_true, Bool.not_false, Bool.false_eq_true, and_self, Nat.add_zero]
        rw [← hY]
        refine CodesR false Y (by omega) _ ?_
        try simp only [or_false, false_or, Bool.and_self, Bool.and_true, Bool.true_and, Bool.and_false, Bool.false_and, Bool.not_not, Int.cast_ofNat_Int, beq_self_eq_true, Heap.set_same, Heap.set_set, Heap.kill_kset, Int.toNat_natCast, Int.natCast_nonneg, Int.ofNat_lt, Int.ofNat_le, Int.natCast_inj, pmC, pmE, pmS, pmV, pmK, pmQ, pmL, pmX, pmF, pmO, pmA, pmR, pmW, pmB, Option.isSome_some, ft, olds_ints, olds_bools, ↓reduceIte, Nat.reduceEqDiff, reduceCtorEq, Nat.reduceAdd, Nat.reduceMul, Nat.reduceLeDiff, Nat.reduceLT, Int.reduceLE, Int.reduceLT, Int.reduceEq, Int.reduceToNat, Nat.zero_mul, Nat.zero_add, Nat.mul_one, ne_eq, not_false_eq_true, not_true_eq_false, true_and, and_true, decide_true, decide_false, Bool.not_true, Bool.not_false, Bool.false_eq_true, and_self, Nat.add_zero]
        refine finK_le (fun x cs hx => ?_) k
        have hxb : x ≠ b := fun e => by rw [e, hn] at hx; cases hx
        rw [Heap.kill_ne _ hxb]; exact lh _ _ hx
end Go.Proofs.Ytjabiegaeflhjaa
