/-
  Codes the other way round: the last chunk first, walked.
  Conditions: none but those that each sentence tells.
-/
import Derived.Test.YtjabiegaeflhjaaFlp1
import Derived.Test.YtjabiegaeflhjaaBackSp
import Derived.Test.YtjabiegaeflhjaaRf
namespace Go.Proofs.Ytjabiegaeflhjaa
open Go.Pm
set_option maxRecDepth 100000
set_option linter.unusedSimpArgs false
set_option linter.unusedVariables false

theorem oldS_at (σ : Sl) (t : Nat) : oldS σ t = (σ t).old := rfl
theorem enterBack : ∀ args w, (callFunc 46 args).run Try.prog w = .ok (.enter 46 args) w := enters_of Try.func46 (by kernel_rfl) rfl
theorem Backward (fr : Bool) (cs : List PV) (n : Nat) (h : Heap) {K : PV → Heap → Prop} (k : K (.fn 46 [] [.fptr true [.list false 2 n (olds cs)] 0]) h) :
    CanP Try.prog 37 [.list fr 2 n cs] h K := by
  refine e37 rfl ?_
  try simp only [c37, r37_0, r37_1, or_false, false_or, Bool.and_self, Bool.and_true, Bool.true_and, Bool.and_false, Bool.false_and, Bool.not_not, Int.cast_ofNat_Int, beq_self_eq_true, Heap.set_same, Heap.set_set, Heap.kill_kset, Int.toNat_natCast, Int.natCast_nonneg, Int.ofNat_lt, Int.ofNat_le, Int.natCast_inj, pmC, pmE, pmS, pmV, pmK, pmQ, pmL, pmX, pmF, pmO, pmA, pmR, pmW, pmB, Option.isSome_some, ft, olds_ints, olds_bools, ↓reduceIte, Nat.reduceEqDiff, reduceCtorEq, Nat.reduceAdd, Nat.reduceMul, Nat.reduceLeDiff, Nat.reduceLT, Int.reduceLE, Int.reduceLT, Int.reduceEq, Int.reduceToNat, Nat.zero_mul, Nat.zero_add, Nat.mul_one, ne_eq, not_false_eq_true, not_true_eq_false, true_and, and_true, decide_true, decide_false, Bool.not_true, Bool.not_false, Bool.false_eq_true, and_self, Nat.add_zero]
  exact finK_le (Heap.le_refl _) k
theorem flat_spI (L : List (Int × Int)) : L.flatMap sp = (L.flatMap spI).map (.int .i64) := by
  induction L with
  | nil => rfl
  | cons x L ih => rw [List.flatMap_cons, List.flatMap_cons, List.map_append, ih]; rfl
theorem cutS_len (X : List Int) {q : Int × Int} (h0 : 0 ≤ q.1) (h1 : q.1 ≤ q.2) (h2 : q.2 ≤ X.length) : (cutS X q).length = q.2.toNat - q.1.toNat := by
  unfold cutS; rw [List.length_take, List.length_drop]; omega
theorem slcS {k : Option Nat} {fr : Bool} {X : List Int} {q : Int × Int} {K : Kt} {h : Heap} (h0 : 0 ≤ q.1) (h1 : q.1 ≤ q.2) (h2 : q.2 ≤ X.length) : slcK k (some 1) (.list fr 1 X.length (X.map (.int .i64))) (some (.int .i64 q.1)) (some (.int .i64 q.2)) K h = K (.list fr 1 (cutS X q).length ((cutS X q).map (.int .i64))) h := by
  have e1 : q.1 = (q.1.toNat : Int) := by omega
  have e2 : q.2 = (q.2.toNat : Int) := by omega
  rw [e1, e2, slcL_both (by omega) (by omega), cutS_len X h0 h1 h2]
  have : (((X.map (PV.int .i64)).drop (q.1.toNat * 1)).take ((q.2.toNat - q.1.toNat) * 1)) = (cutS X q).map (.int .i64) := by
    unfold cutS; rw [Nat.mul_one, Nat.mul_one, ← List.map_drop, ← List.map_take]
  rw [this]
theorem turned (p : PV) (hp : PR p) (fr : Bool) (X : List Int) (hl : X.length ≤ 1000000) (m : Bool) (h : Heap) {K : PV → Heap → Prop} (k : K (.list true 1 X.length ((trn m X).map (.int .i64))) h) :
    CanP Try.prog 23 [p, .list fr 1 X.length (X.map (.int .i64)), .bool m] h K := by
  refine e23 rfl ?_
  have hp' := hp.old
  try simp only [c23, r23_0, r23_1, r23_2, r23_3, r23_4, r23_5, or_false, false_or, Bool.and_self, Bool.and_true, Bool.true_and, Bool.and_false, Bool.false_and, Bool.not_not, Int.cast_ofNat_Int, beq_self_eq_true, Heap.set_same, Heap.set_set, Heap.kill_kset, Int.toNat_natCast, Int.natCast_nonneg, Int.ofNat_lt, Int.ofNat_le, Int.natCast_inj, pmC, pmE, pmS, pmV, pmK, pmQ, pmL, pmX, pmF, pmO, pmA, pmR, pmW, pmB, Option.isSome_some, ft, olds_ints, olds_bools, ↓reduceIte, Nat.reduceEqDiff, reduceCtorEq, Nat.reduceAdd, Nat.reduceMul, Nat.reduceLeDiff, Nat.reduceLT, Int.reduceLE, Int.reduceLT, Int.reduceEq, Int.reduceToNat, Nat.zero_mul, Nat.zero_add, Nat.mul_one, ne_eq, not_false_eq_true, not_true_eq_false, true_and, and_true, decide_true, decide_false, Bool.not_true, Bool.not_false, Bool.false_eq_true, and_self, Nat.add_zero]
  refine ⟨by omega, by omega, fun b0 hb0 ob hob => ?_⟩
  refine Chunks _ hp' _ X hl m _ ?_
  try simp only [or_false, false_or, Bool.and_self, Bool.and_true, Bool.true_and, Bool.and_false, Bool.false_and, Bool.not_not, Int.cast_ofNat_Int, beq_self_eq_true, Heap.set_same, Heap.set_set, Heap.kill_kset, Int.toNat_natCast, Int.natCast_nonneg, Int.ofNat_lt, Int.ofNat_le, Int.natCast_inj, pmC, pmE, pmS, pmV, pmK, pmQ, pmL, pmX, pmF, pmO, pmA, pmR, pmW, pmB, Option.isSome_some, ft, olds_ints, olds_bools, ↓reduceIte, Nat.reduceEqDiff, reduceCtorEq, Nat.reduceAdd, Nat.reduceMul, Nat.reduceLeDiff, Nat.reduceLT, Int.reduceLE, Int.reduceLT, Int.reduceEq, Int.reduceToNat, Nat.zero_mul, Nat.zero_add, Nat.mul_one, ne_eq, not_false_eq_true, not_true_eq_false, true_and, and_true, decide_true, decide_false, Bool.not_true, Bool.not_false, Bool.false_eq_true, and_self, Nat.add_zero]
  refine Backward _ _ _ _ ?_
  try simp only [old_sp, or_false, false_or, Bool.and_self, Bool.and_true, Bool.true_and, Bool.and_false, Bool.false_and, Bool.not_not, Int.cast_ofNat_Int, beq_self_eq_true, Heap.set_same, Heap.set_set, Heap.kill_kset, Int.toNat_natCast, Int.natCast_nonneg, Int.ofNat_lt, Int.ofNat_le, Int.natCast_inj, pmC, pmE, pmS, pmV, pmK, pmQ, pmL, pmX, pmF, pmO, pmA, pmR, pmW, pmB, Option.isSome_some, ft, olds_ints, olds_bools, ↓reduceIte, Nat.reduceEqDiff, reduceCtorEq, Nat.reduceAdd, Nat.reduceMul, Nat.reduceLeDiff, Nat.reduceLT, Int.reduceLE, Int.reduceLT, Int.reduceEq, Int.reduceToNat, Nat.zero_mul, Nat.zero_add, Nat.mul_one, ne_eq, not_false_eq_true, not_true_eq_false, true_and, and_true, decide_true, decide_false, Bool.not_true, Bool.not_false, Bool.false_eq_true, and_self, Nat.add_zero]
  have hne : ob ≠ b0 := fun e => by rw [e, Heap.set_same] at hob; cases hob
  have hobn : h.f ob = none := by rwa [Heap.set_ne _ _ hne] at hob
  have hcin := chk_in m X
  have hcl := chI_len m X X.length
  have htl := trn_len m X
  have htr : (chk m X).reverse.flatMap (cutS X) = trn m X := rfl
  rw [show chI m X X.length = chk m X from rfl] at hcl
  generalize chk m X = L at *
  have hpl : ∀ i, ((L.reverse.take i).flatMap (cutS X)).length ≤ X.length := fun i => by
    have e := congrArg List.length (congrArg (List.flatMap (cutS X)) (List.take_append_drop i L.reverse))
    rw [List.flatMap_append, List.length_append, htr, htl] at e
    omega
  refine ⟨_, _, (List.range L.length).map fun (i : Nat) => [.int .i64 ((L.length : Int) - 1 - (i : Int)), .agg [.int .i64 (L.getD (L.length - 1 - i) default).1, .int .i64 (L.getD (L.length - 1 - i) default).2]],
    fun i h1 => ∃ v, h1.f ob = some [v] ∧ Acc h h1 v 1 ((L.reverse.take i).flatMap (cutS X)).length (((L.reverse.take i).flatMap (cutS X)).map (.int .i64)) ∧ blkOf v ≠ some ob ∧ h.le h1, rfl, enterBack, ?_, ?_, ?_, ?_, ?_⟩
  · intro i hi
    rw [List.length_map, List.length_range] at hi
    simp [List.getD, hi]
  · have e : olds [PV.fptr true [.list false 2 L.length (L.flatMap sp)] 0] = [PV.fptr false [.list false 2 L.length ((L.flatMap spI).map (.int .i64))] 0] := by
      simp only [olds, PV.old, old_sp]
      rw [flat_spI]
    rw [e]
    exact back_iter L (by omega) _
  · refine ⟨.buf b0 1 0 0, Heap.set_same _ _ _, ?_, fun e => hne (by cases e; rfl), Heap.le_set (Heap.le_set (Heap.le_refl _) hb0) hobn⟩
    exact Acc.buf hb0 (by rw [Heap.set_ne _ _ (Ne.symm hne), Heap.set_same]; rfl) rfl
  · rintro i hi h1 ⟨v, hv, ac, hvne, lh⟩
    rw [List.length_map, List.length_range] at hi
    have hxi : ((List.range L.length).map fun (i : Nat) => [PV.int .i64 ((L.length : Int) - 1 - (i : Int)), .agg [.int .i64 (L.getD (L.length - 1 - i) default).1, .int .i64 (L.getD (L.length - 1 - i) default).2]]).getD i [] = [PV.int .i64 ((L.length : Int) - 1 - i), .agg [.int .i64 (L.getD (L.length - 1 - i) default).1, .int .i64 (L.getD (L.length - 1 - i) default).2]] := by
      simp [List.getD, hi]
    rw [hxi]
    have hq := hcin _ (get_mem L (i := L.length - 1 - i) (by omega))
    have hpre : (L.reverse.take (i + 1)).flatMap (cutS X) = (L.reverse.take i).flatMap (cutS X) ++ cutS X (L.getD (L.length - 1 - i) default) := by
      rw [List.take_add_one, List.flatMap_append, List.getElem?_reverse (by omega), List.getD, List.getElem?_eq_getElem (by omega)]
      simp
    have hp1 := hpl (i + 1)
    rw [hpre, List.length_append] at hp1
    generalize L.getD (L.length - 1 - i) default = q at *
    have hvo : v.old = v := by rcases ac with ⟨rfl, _⟩ | ⟨b, rfl, _⟩ <;> rfl
    try simp only [ca23, cb23, c23, r23_0, r23_1, r23_2, r23_3, r23_4, r23_5, setPs, List.zip_cons_cons, List.zip_nil_left, List.zip_nil_right, oldS_at, hv, hvo, or_false, false_or, Bool.and_self, Bool.and_true, Bool.true_and, Bool.and_false, Bool.false_and, Bool.not_not, Int.cast_ofNat_Int, beq_self_eq_true, Heap.set_same, Heap.set_set, Heap.kill_kset, Int.toNat_natCast, Int.natCast_nonneg, Int.ofNat_lt, Int.ofNat_le, Int.natCast_inj, pmC, pmE, pmS, pmV, pmK, pmQ, pmL, pmX, pmF, pmO, pmA, pmR, pmW, pmB, Option.isSome_some, ft, olds_ints, olds_bools, ↓reduceIte, Nat.reduceEqDiff, reduceCtorEq, Nat.reduceAdd, Nat.reduceMul, Nat.reduceLeDiff, Nat.reduceLT, Int.reduceLE, Int.reduceLT, Int.reduceEq, Int.reduceToNat, Nat.zero_mul, Nat.zero_add, Nat.mul_one, ne_eq, not_false_eq_true, not_true_eq_false, true_and, and_true, decide_true, decide_false, Bool.not_true, Bool.not_false, Bool.false_eq_true, and_self, Nat.add_zero]
    intro b hb
    rw [Heap.kill_none hb]
    try simp only [hv, hvo, oldS_at, or_false, false_or, Bool.and_self, Bool.and_true, Bool.true_and, Bool.and_false, Bool.false_and, Bool.not_not, Int.cast_ofNat_Int, beq_self_eq_true, Heap.set_same, Heap.set_set, Heap.kill_kset, Int.toNat_natCast, Int.natCast_nonneg, Int.ofNat_lt, Int.ofNat_le, Int.natCast_inj, pmC, pmE, pmS, pmV, pmK, pmQ, pmL, pmX, pmF, pmO, pmA, pmR, pmW, pmB, Option.isSome_some, ft, olds_ints, olds_bools, ↓reduceIte, Nat.reduceEqDiff, reduceCtorEq, Nat.reduceAdd, Nat.reduceMul, Nat.reduceLeDiff, Nat.reduceLT, Int.reduceLE, Int.reduceLT, Int.reduceEq, Int.reduceToNat, Nat.zero_mul, Nat.zero_add, Nat.mul_one, ne_eq, not_false_eq_true, not_true_eq_false, true_and, and_true, decide_true, decide_false, Bool.not_true, Bool.not_false, Bool.false_eq_true, and_self, Nat.add_zero]
    rw [slcS hq.1 (by omega) hq.2.2]
    try simp only [hvo, or_false, false_or, Bool.and_self, Bool.and_true, Bool.true_and, Bool.and_false, Bool.false_and, Bool.not_not, Int.cast_ofNat_Int, beq_self_eq_true, Heap.set_same, Heap.set_set, Heap.kill_kset, Int.toNat_natCast, Int.natCast_nonneg, Int.ofNat_lt, Int.ofNat_le, Int.natCast_inj, pmC, pmE, pmS, pmV, pmK, pmQ, pmL, pmX, pmF, pmO, pmA, pmR, pmW, pmB, Option.isSome_some, ft, olds_ints, olds_bools, ↓reduceIte, Nat.reduceEqDiff, reduceCtorEq, Nat.reduceAdd, Nat.reduceMul, Nat.reduceLeDiff, Nat.reduceLT, Int.reduceLE, Int.reduceLT, Int.reduceEq, Int.reduceToNat, Nat.zero_mul, Nat.zero_add, Nat.mul_one, ne_eq, not_false_eq_true, not_true_eq_false, true_and, and_true, decide_true, decide_false, Bool.not_true, Bool.not_false, Bool.false_eq_true, and_self, Nat.add_zero]
    refine ac.appA lh (by simp) (by omega) (by simp only [maxLen]; omega) fun v' h4 a4 l4 sd => ?_
    have r4 := sd _ _ hv hvne
    have hr4 := r4.1
    have hf4 : Pm.flat v' = some [v'] := by rcases a4 with ⟨e, _⟩ | ⟨b, e, _⟩ <;> rw [e] <;> rfl
    try simp only [oldS_at, hr4, hf4, or_false, false_or, Bool.and_self, Bool.and_true, Bool.true_and, Bool.and_false, Bool.false_and, Bool.not_not, Int.cast_ofNat_Int, beq_self_eq_true, Heap.set_same, Heap.set_set, Heap.kill_kset, Int.toNat_natCast, Int.natCast_nonneg, Int.ofNat_lt, Int.ofNat_le, Int.natCast_inj, pmC, pmE, pmS, pmV, pmK, pmQ, pmL, pmX, pmF, pmO, pmA, pmR, pmW, pmB, Option.isSome_some, ft, olds_ints, olds_bools, ↓reduceIte, Nat.reduceEqDiff, reduceCtorEq, Nat.reduceAdd, Nat.reduceMul, Nat.reduceLeDiff, Nat.reduceLT, Int.reduceLE, Int.reduceLT, Int.reduceEq, Int.reduceToNat, Nat.zero_mul, Nat.zero_add, Nat.mul_one, ne_eq, not_false_eq_true, not_true_eq_false, true_and, and_true, decide_true, decide_false, Bool.not_true, Bool.not_false, Bool.false_eq_true, and_self, Nat.add_zero]
    refine ⟨v', rfl, ?_, r4.2, Heap.le_set l4 hobn⟩
    rw [hpre, List.length_append, List.map_append]
    exact a4.set r4.2
  · rintro h1 ⟨v, hv, ac, hvne, lh⟩
    rw [List.length_map, List.length_range, List.take_of_length_le (by simp), htr] at ac
    have hvo : v.old = v := by rcases ac with ⟨rfl, _⟩ | ⟨b, rfl, _⟩ <;> rfl
    try simp only [cr23, c23, r23_0, r23_1, r23_2, r23_3, r23_4, r23_5, oldS_at, hv, hvo, or_false, false_or, Bool.and_self, Bool.and_true, Bool.true_and, Bool.and_false, Bool.false_and, Bool.not_not, Int.cast_ofNat_Int, beq_self_eq_true, Heap.set_same, Heap.set_set, Heap.kill_kset, Int.toNat_natCast, Int.natCast_nonneg, Int.ofNat_lt, Int.ofNat_le, Int.natCast_inj, pmC, pmE, pmS, pmV, pmK, pmQ, pmL, pmX, pmF, pmO, pmA, pmR, pmW, pmB, Option.isSome_some, ft, olds_ints, olds_bools, ↓reduceIte, Nat.reduceEqDiff, reduceCtorEq, Nat.reduceAdd, Nat.reduceMul, Nat.reduceLeDiff, Nat.reduceLT, Int.reduceLE, Int.reduceLT, Int.reduceEq, Int.reduceToNat, Nat.zero_mul, Nat.zero_add, Nat.mul_one, ne_eq, not_false_eq_true, not_true_eq_false, true_and, and_true, decide_true, decide_false, Bool.not_true, Bool.not_false, Bool.false_eq_true, and_self, Nat.add_zero]
    refine ac.fin lh ?_
    rw [olds_ints, htl]; exact k
end Go.Proofs.Ytjabiegaeflhjaa
