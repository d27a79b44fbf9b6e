/-
  A row of whole numbers, number by number (slices.Values), gathered again (slices.AppendSeq, Collect), sorted (slices.Sorted).
  Conditions: a row of at most a million.
-/
import Derived.Test.YthoggjdkabhpkaaPmV
import Derived.Test.YthoggjdkabhpkaaC
import Derived.Test.YthoggjdkabhpkaaRf
import Derived.Test.YthoggjdkabhpkaaLsort
import Derived.RangeFuncBox
import Derived.WalkKit
import Derived.OwnWalkIn
import Derived.TacticsInMore
import Derived.LoopNIn
import Derived.LoopIn
namespace Go.Proofs.Ythoggjdkabhpkaa
open Go.Pm Go.RowKit
set_option linter.unusedSimpArgs false
set_option linter.unusedVariables false
section
attribute [local go_sem] Oper.semAt_some

set_option maxRecDepth 100000 in
set_option maxHeartbeats 2000000 in
theorem vals1 (w : World) (h : Heap) (l pb po b off n cap : Nat) (x : Nat → Int) (hreach : n ≤ 1000000) (hpb : pb < w.heap.size) (hpd : h.f pb = none) (hb : b < w.heap.size) (hd : h.f b = none) (J : Nat → World → Prop)
    (hY : ∀ i, i < n → ∀ W1, J i W1 → YieldAt Fence.wide 1 Try.prog l #[.int .i64 (x i)] W1 fun e W' => e = .returned (.bool true) ∧ J (i + 1) W' ∧ KpD w h W1 W')
    (W : World) (hW : KpD w h w W) (hBs : w.cell? ⟨pb, po, none⟩ = some (.slice (some ⟨b, off, none⟩) n cap)) (hc0 : ∀ j, j < n → w.cell? ⟨b, off + j, none⟩ = some (.int .i64 (x j))) (h0 : J 0 W) :
    CallsIn Fence.wide 2 Try.prog 37 #[.func (.yield l) #[] #[], .pointer (some ⟨pb, po, none⟩)] W fun e W' => (∃ v, e = .returned v) ∧ J n W' := by
  have kc : ∀ {A : World}, KpD w h w A → ∀ k, A.cell? ⟨pb, k, none⟩ = w.cell? ⟨pb, k, none⟩ ∧ A.cell? ⟨b, k, none⟩ = w.cell? ⟨b, k, none⟩ := fun ka k => ⟨by simp [World.cell?, ka.2 pb hpb hpd], by simp [World.cell?, ka.2 b hb hd]⟩
  refine callsIn_of_wp Try.func37 rfl trivial ?_ rfl
  simp only [Try.ntmps37, List.size_toArray, List.length_cons, List.length_nil, Nat.reduceAdd, Nat.reduceSub, Array.replicate_succ, Array.replicate_zero, List.push_toArray, List.append_toArray, List.nil_append, List.cons_append]
  have hB0 : W.cell? ⟨pb, po, none⟩ = some (.slice (some ⟨b, off, none⟩) n cap) := by rw [(kc hW po).1]; exact hBs
  gi_wp2
  gi_loopw [7] (fun i wr => ∃ k : Nat, k ≤ n ∧ i = .int .i64 k ∧ J k wr ∧ KpD w h w wr) (fun i _ => n - (intOf i).toNat)
  case atStart => exact ⟨0, Nat.zero_le _, rfl, h0, hW⟩
  case round =>
    obtain ⟨k, hk, rfl, hJs, hnx⟩ := hrel
    by_cases hlt : k < n
    · obtain ⟨fn, tmps, assign, body, hy, hR⟩ := hY k hlt wr hJs
      have hcl : wr.cell? ⟨b, off + k, none⟩ = some (.int .i64 (x k)) := by rw [(kc hnx _).2]; exact hc0 _ hlt
      clear kc hc0 hB0 hBs
      gi_wp2
      refine hR.mono ?_
      rintro e W3 ⟨rfl, hJ3, hk3⟩
      gi_wp2
      go_roundw
      case rel => exact ⟨k + 1, by omega, by simp, hJ3, hnx.trans hk3⟩
      case measure => simp [intOf]; omega
    · obtain rfl : k = n := by omega
      gi_wp2
      go_end0
      exact ⟨⟨_, rfl⟩, hJs⟩
set_option maxRecDepth 100000 in
set_option maxHeartbeats 2000000 in
theorem vals0 (l pb po cap : Nat) (a : Option Addr) (J : Nat → World → Prop) (W : World) (hBs : W.cell? ⟨pb, po, none⟩ = some (.slice a 0 cap)) (h0 : J 0 W) :
    CallsIn Fence.wide 2 Try.prog 37 #[.func (.yield l) #[] #[], .pointer (some ⟨pb, po, none⟩)] W fun e W' => (∃ v, e = .returned v) ∧ J 0 W' := by
  refine callsIn_of_wp Try.func37 rfl trivial ?_ rfl
  simp only [Try.ntmps37, List.size_toArray, List.length_cons, List.length_nil, Nat.reduceAdd, Nat.reduceSub, Array.replicate_succ, Array.replicate_zero, List.push_toArray, List.append_toArray, List.nil_append, List.cons_append]
  gi_wp2
  gi_loopw [7] (fun i wr => i = .int .i64 0 ∧ J 0 wr) (fun _ _ => 0)
  case atStart => exact ⟨rfl, h0⟩
  case round =>
    obtain ⟨rfl, hJs⟩ := hrel
    gi_wp2
    go_end0
    exact ⟨⟨_, rfl⟩, hJs⟩
end
set_option maxRecDepth 100000
theorem vals_iter (X : List Int) (hl : X.length ≤ 1000000) (h : Heap) : IterP Try.prog 37 [.fptr false [.list false 1 X.length (X.map (.int .i64))] 0] h (X.map fun x => [.int .i64 x]) := by
  intro w lb hw ha
  simp only [TR, VR] at ha
  obtain ⟨c, vs0, h1, ⟨pb, po, vs, rfl, hpb, hpd, _, hcr, hm⟩, rfl⟩ := ha
  obtain rfl : lb = #[.pointer (some ⟨pb, po + 0, none⟩)] := by apply Array.toList_inj.1; exact h1
  simp only [CR, VR] at hcr
  obtain ⟨sv, vs1, rfl, _, ⟨a, cap, vs2, rfl, hcap, hlen, hcs, ha⟩, rfl⟩ := hcr
  have hB := hm 0 _ rfl
  rw [Nat.add_zero] at hB ⊢
  have hx := CR_ints _ hcs
  refine ⟨fun i => #[.int .i64 (X.getD i default)], fun i hi => ?_, ?_⟩
  · rw [List.length_map] at hi
    have : (X.map fun x => [PV.int .i64 x]).getD i [] = [PV.int .i64 (X.getD i default)] := by
      simp [List.getD, hi]
    rw [this]
    simp only [TR, VR]
    exact ⟨_, _, rfl, rfl, rfl⟩
  · rw [List.length_map]
    intro l J W hW hY h0
    have kc : ∀ k, W.cell? ⟨pb, k, none⟩ = w.cell? ⟨pb, k, none⟩ := fun k => by simp [World.cell?, hW.2 pb hpb hpd]
    rcases ha with h0' | ⟨b, o, rfl, hb, hd, _, hmem⟩
    · rw [h0'] at hB ⊢
      exact vals0 l pb po cap a J W (by rw [kc]; exact hB) h0
    · subst hx
      refine vals1 w h l pb po b o X.length cap (fun j => X.getD j default) hl hpb hpd hb hd J hY W hW hB (fun j hj => ?_) h0
      have := hmem j (.int .i64 (X.getD j default)) (by rw [List.getElem?_map, List.getElem?_eq_getElem hj]; simp [List.getD, hj])
      exact this
theorem oldS_at (σ : Sl) (t : Nat) : oldS σ t = (σ t).old := rfl
theorem enterVals : ∀ args w, (callFunc 37 args).run Try.prog w = .ok (.enter 37 args) w := enters_of Try.func37 (by kernel_rfl) rfl
theorem Values (fr : Bool) (cs : List PV) (n : Nat) (h : Heap) {K : PV → Heap → Prop} (k : K (.fn 37 [] [.fptr true [.list false 1 n (olds cs)] 0]) h) :
    CanP Try.prog 25 [.list fr 1 n cs] h K := by
  refine e25 rfl ?_
  try simp only [c25, r25_0, r25_1, or_false, false_or, Bool.and_self, Bool.and_true, Bool.true_and, Bool.and_false, Bool.false_and, Bool.not_not, Int.cast_ofNat_Int, beq_self_eq_true, Heap.set_same, Heap.set_set, Heap.kill_kset, Int.toNat_natCast, Int.natCast_nonneg, Int.ofNat_lt, Int.ofNat_le, Int.natCast_inj, pmC, pmE, pmS, pmV, pmK, pmQ, pmL, pmX, pmF, pmO, pmA, pmR, pmW, pmB, Option.isSome_some, ft, olds_ints, olds_bools, ↓reduceIte, Nat.reduceEqDiff, reduceCtorEq, Nat.reduceAdd, Nat.reduceMul, Nat.reduceLeDiff, Nat.reduceLT, Int.reduceLE, Int.reduceLT, Int.reduceEq, Int.reduceToNat, Nat.zero_mul, Nat.zero_add, Nat.mul_one, ne_eq, not_false_eq_true, not_true_eq_false, true_and, and_true, decide_true, decide_false, Bool.not_true, Bool.not_false, Bool.false_eq_true, and_self, Nat.add_zero]
  exact finK_le (Heap.le_refl _) k
theorem AppendSeq (f1 : Bool) (X : List Int) (hl : X.length ≤ 1000000) (h : Heap) {K : PV → Heap → Prop} (k : ∀ v h', Acc h h' v 1 X.length (X.map (.int .i64)) → h.le h' → K v h') :
    CanP Try.prog 41 [.nils, .fn 37 [] [.fptr f1 [.list false 1 X.length (X.map (.int .i64))] 0]] h K := by
  refine e41 rfl ?_
  try simp only [c41, r41_0, r41_1, r41_2, r41_3, r41_4, or_false, false_or, Bool.and_self, Bool.and_true, Bool.true_and, Bool.and_false, Bool.false_and, Bool.not_not, Int.cast_ofNat_Int, beq_self_eq_true, Heap.set_same, Heap.set_set, Heap.kill_kset, Int.toNat_natCast, Int.natCast_nonneg, Int.ofNat_lt, Int.ofNat_le, Int.natCast_inj, pmC, pmE, pmS, pmV, pmK, pmQ, pmL, pmX, pmF, pmO, pmA, pmR, pmW, pmB, Option.isSome_some, ft, olds_ints, olds_bools, ↓reduceIte, Nat.reduceEqDiff, reduceCtorEq, Nat.reduceAdd, Nat.reduceMul, Nat.reduceLeDiff, Nat.reduceLT, Int.reduceLE, Int.reduceLT, Int.reduceEq, Int.reduceToNat, Nat.zero_mul, Nat.zero_add, Nat.mul_one, ne_eq, not_false_eq_true, not_true_eq_false, true_and, and_true, decide_true, decide_false, Bool.not_true, Bool.not_false, Bool.false_eq_true, and_self, Nat.add_zero]
  intro ob hob
  refine ⟨_, _, X.map fun x => [.int .i64 x],
    fun i h1 => ∃ v, h1.f ob = some [v] ∧ Acc h h1 v 1 i ((X.take i).map (.int .i64)) ∧ blkOf v ≠ some ob ∧ h.le h1, rfl, enterVals, ?_, ?_, ?_, ?_, ?_⟩
  · intro i hi
    rw [List.length_map] at hi
    simp [List.getD, hi]
  · have e : olds [PV.fptr false [.list false 1 X.length (X.map (.int .i64))] 0] = [PV.fptr false [.list false 1 X.length (X.map (.int .i64))] 0] := by
      simp only [olds, PV.old, olds_ints]
    rw [e]
    exact vals_iter X hl _
  · exact ⟨.nils, Heap.set_same _ _ _, Acc.nil _ _ _, by simp [blkOf], Heap.le_set (Heap.le_refl _) hob⟩
  · rintro i hi h1 ⟨v, hv, ac, hvne, lh⟩
    rw [List.length_map] at hi
    have hxi : (X.map fun x => [PV.int .i64 x]).getD i [] = [PV.int .i64 (X.getD i default)] := by simp [List.getD, hi]
    rw [hxi]
    have htk := take_succ_map (PV.int .i64) X hi
    generalize X.getD i default = c at *
    have hvo : v.old = v := by rcases ac with ⟨rfl, _⟩ | ⟨b, rfl, _⟩ <;> rfl
    try simp only [ca41, cb41, c41, r41_0, r41_1, r41_2, r41_3, r41_4, setPs, List.zip_cons_cons, List.zip_nil_left, List.zip_nil_right, oldS_at, hv, hvo, or_false, false_or, Bool.and_self, Bool.and_true, Bool.true_and, Bool.and_false, Bool.false_and, Bool.not_not, Int.cast_ofNat_Int, beq_self_eq_true, Heap.set_same, Heap.set_set, Heap.kill_kset, Int.toNat_natCast, Int.natCast_nonneg, Int.ofNat_lt, Int.ofNat_le, Int.natCast_inj, pmC, pmE, pmS, pmV, pmK, pmQ, pmL, pmX, pmF, pmO, pmA, pmR, pmW, pmB, Option.isSome_some, ft, olds_ints, olds_bools, ↓reduceIte, Nat.reduceEqDiff, reduceCtorEq, Nat.reduceAdd, Nat.reduceMul, Nat.reduceLeDiff, Nat.reduceLT, Int.reduceLE, Int.reduceLT, Int.reduceEq, Int.reduceToNat, Nat.zero_mul, Nat.zero_add, Nat.mul_one, ne_eq, not_false_eq_true, not_true_eq_false, true_and, and_true, decide_true, decide_false, Bool.not_true, Bool.not_false, Bool.false_eq_true, and_self, Nat.add_zero]
    refine ac.app lh (by decide) rfl (by omega) (by simp only [maxLen]; omega) fun v' h4 a4 l4 sd => ?_
    have r4 := sd _ _ hv hvne
    have hr4 := r4.1
    have hf4 : Pm.flat v' = some [v'] := by rcases a4 with ⟨e, _⟩ | ⟨b, e, _⟩ <;> rw [e] <;> rfl
    try simp only [oldS_at, hr4, hf4, or_false, false_or, Bool.and_self, Bool.and_true, Bool.true_and, Bool.and_false, Bool.false_and, Bool.not_not, Int.cast_ofNat_Int, beq_self_eq_true, Heap.set_same, Heap.set_set, Heap.kill_kset, Int.toNat_natCast, Int.natCast_nonneg, Int.ofNat_lt, Int.ofNat_le, Int.natCast_inj, pmC, pmE, pmS, pmV, pmK, pmQ, pmL, pmX, pmF, pmO, pmA, pmR, pmW, pmB, Option.isSome_some, ft, olds_ints, olds_bools, ↓reduceIte, Nat.reduceEqDiff, reduceCtorEq, Nat.reduceAdd, Nat.reduceMul, Nat.reduceLeDiff, Nat.reduceLT, Int.reduceLE, Int.reduceLT, Int.reduceEq, Int.reduceToNat, Nat.zero_mul, Nat.zero_add, Nat.mul_one, ne_eq, not_false_eq_true, not_true_eq_false, true_and, and_true, decide_true, decide_false, Bool.not_true, Bool.not_false, Bool.false_eq_true, and_self, Nat.add_zero]
    refine ⟨v', rfl, ?_, r4.2, Heap.le_set l4 hob⟩
    rw [htk]
    exact a4.set r4.2
  · rintro h1 ⟨v, hv, ac, hvne, lh⟩
    rw [List.length_map, List.take_length] at ac
    have hvo : v.old = v := by rcases ac with ⟨rfl, _⟩ | ⟨b, rfl, _⟩ <;> rfl
    try simp only [cr41, c41, r41_0, r41_1, r41_2, r41_3, r41_4, oldS_at, hv, hvo, or_false, false_or, Bool.and_self, Bool.and_true, Bool.true_and, Bool.and_false, Bool.false_and, Bool.not_not, Int.cast_ofNat_Int, beq_self_eq_true, Heap.set_same, Heap.set_set, Heap.kill_kset, Int.toNat_natCast, Int.natCast_nonneg, Int.ofNat_lt, Int.ofNat_le, Int.natCast_inj, pmC, pmE, pmS, pmV, pmK, pmQ, pmL, pmX, pmF, pmO, pmA, pmR, pmW, pmB, Option.isSome_some, ft, olds_ints, olds_bools, ↓reduceIte, Nat.reduceEqDiff, reduceCtorEq, Nat.reduceAdd, Nat.reduceMul, Nat.reduceLeDiff, Nat.reduceLT, Int.reduceLE, Int.reduceLT, Int.reduceEq, Int.reduceToNat, Nat.zero_mul, Nat.zero_add, Nat.mul_one, ne_eq, not_false_eq_true, not_true_eq_false, true_and, and_true, decide_true, decide_false, Bool.not_true, Bool.not_false, Bool.false_eq_true, and_self, Nat.add_zero]
    exact finK_rf (k v h1 ac lh)
theorem Collect (f1 : Bool) (X : List Int) (hl : X.length ≤ 1000000) (h : Heap) {K : PV → Heap → Prop} (k : ∀ v h', Acc h h' v 1 X.length (X.map (.int .i64)) → h.le h' → K v h') :
    CanP Try.prog 35 [.fn 37 [] [.fptr f1 [.list false 1 X.length (X.map (.int .i64))] 0]] h K := by
  refine e35 rfl ?_
  try simp only [c35, r35_0, r35_1, or_false, false_or, Bool.and_self, Bool.and_true, Bool.true_and, Bool.and_false, Bool.false_and, Bool.not_not, Int.cast_ofNat_Int, beq_self_eq_true, Heap.set_same, Heap.set_set, Heap.kill_kset, Int.toNat_natCast, Int.natCast_nonneg, Int.ofNat_lt, Int.ofNat_le, Int.natCast_inj, pmC, pmE, pmS, pmV, pmK, pmQ, pmL, pmX, pmF, pmO, pmA, pmR, pmW, pmB, Option.isSome_some, ft, olds_ints, olds_bools, ↓reduceIte, Nat.reduceEqDiff, reduceCtorEq, Nat.reduceAdd, Nat.reduceMul, Nat.reduceLeDiff, Nat.reduceLT, Int.reduceLE, Int.reduceLT, Int.reduceEq, Int.reduceToNat, Nat.zero_mul, Nat.zero_add, Nat.mul_one, ne_eq, not_false_eq_true, not_true_eq_false, true_and, and_true, decide_true, decide_false, Bool.not_true, Bool.not_false, Bool.false_eq_true, and_self, Nat.add_zero]
  refine AppendSeq _ X hl _ fun v h' ac lh => ?_
  try simp only [or_false, false_or, Bool.and_self, Bool.and_true, Bool.true_and, Bool.and_false, Bool.false_and, Bool.not_not, Int.cast_ofNat_Int, beq_self_eq_true, Heap.set_same, Heap.set_set, Heap.kill_kset, Int.toNat_natCast, Int.natCast_nonneg, Int.ofNat_lt, Int.ofNat_le, Int.natCast_inj, pmC, pmE, pmS, pmV, pmK, pmQ, pmL, pmX, pmF, pmO, pmA, pmR, pmW, pmB, Option.isSome_some, ft, olds_ints, olds_bools, ↓reduceIte, Nat.reduceEqDiff, reduceCtorEq, Nat.reduceAdd, Nat.reduceMul, Nat.reduceLeDiff, Nat.reduceLT, Int.reduceLE, Int.reduceLT, Int.reduceEq, Int.reduceToNat, Nat.zero_mul, Nat.zero_add, Nat.mul_one, ne_eq, not_false_eq_true, not_true_eq_false, true_and, and_true, decide_true, decide_false, Bool.not_true, Bool.not_false, Bool.false_eq_true, and_self, Nat.add_zero]
  exact finK_rf (k v h' ac lh)
theorem SortNil (h : Heap) {K : PV → Heap → Prop} (k : K (.tup []) h) : CanP Try.prog 36 [.nils] h K :=
  ⟨enterSort, fun w cargs hw ha => by
    simp only [TR, VR] at ha
    obtain ⟨v, vs', h1, rfl, rfl⟩ := ha
    obtain rfl : cargs = #[.slice none 0 0] := by
      apply Array.toList_inj.1; exact h1
    refine (sortNone none 0 w).mono ?_
    rintro e w' ⟨rfl, rfl⟩
    exact ⟨.tup [], _, _, rfl, St.refl _ _, hw, by simp [VR, TR], k⟩⟩
theorem Sorted (f1 : Bool) (X : List Int) (hl : X.length ≤ 1000000) (h : Heap) {K : PV → Heap → Prop} (k : K (.list true 1 X.length ((X.mergeSort fun x y => decide (x ≤ y)).map (.int .i64))) h) :
    CanP Try.prog 24 [.fn 37 [] [.fptr f1 [.list false 1 X.length (X.map (.int .i64))] 0]] h K := by
  refine e24 rfl ?_
  try simp only [c24, r24_0, r24_1, r24_2, r24_3, or_false, false_or, Bool.and_self, Bool.and_true, Bool.true_and, Bool.and_false, Bool.false_and, Bool.not_not, Int.cast_ofNat_Int, beq_self_eq_true, Heap.set_same, Heap.set_set, Heap.kill_kset, Int.toNat_natCast, Int.natCast_nonneg, Int.ofNat_lt, Int.ofNat_le, Int.natCast_inj, pmC, pmE, pmS, pmV, pmK, pmQ, pmL, pmX, pmF, pmO, pmA, pmR, pmW, pmB, Option.isSome_some, ft, olds_ints, olds_bools, ↓reduceIte, Nat.reduceEqDiff, reduceCtorEq, Nat.reduceAdd, Nat.reduceMul, Nat.reduceLeDiff, Nat.reduceLT, Int.reduceLE, Int.reduceLT, Int.reduceEq, Int.reduceToNat, Nat.zero_mul, Nat.zero_add, Nat.mul_one, ne_eq, not_false_eq_true, not_true_eq_false, true_and, and_true, decide_true, decide_false, Bool.not_true, Bool.not_false, Bool.false_eq_true, and_self, Nat.add_zero]
  refine Collect _ X hl _ fun v h' ac lh => ?_
  rcases ac with ⟨rfl, e0, _⟩ | ⟨b, rfl, hn, hb, _⟩
  · have hX : X = [] := List.length_eq_zero_iff.1 e0
    subst hX
    try simp only [or_false, false_or, Bool.and_self, Bool.and_true, Bool.true_and, Bool.and_false, Bool.false_and, Bool.not_not, Int.cast_ofNat_Int, beq_self_eq_true, Heap.set_same, Heap.set_set, Heap.kill_kset, Int.toNat_natCast, Int.natCast_nonneg, Int.ofNat_lt, Int.ofNat_le, Int.natCast_inj, pmC, pmE, pmS, pmV, pmK, pmQ, pmL, pmX, pmF, pmO, pmA, pmR, pmW, pmB, Option.isSome_some, ft, olds_ints, olds_bools, ↓reduceIte, Nat.reduceEqDiff, reduceCtorEq, Nat.reduceAdd, Nat.reduceMul, Nat.reduceLeDiff, Nat.reduceLT, Int.reduceLE, Int.reduceLT, Int.reduceEq, Int.reduceToNat, Nat.zero_mul, Nat.zero_add, Nat.mul_one, ne_eq, not_false_eq_true, not_true_eq_false, true_and, and_true, decide_true, decide_false, Bool.not_true, Bool.not_false, Bool.false_eq_true, and_self, Nat.add_zero]
    refine SortNil _ ?_
    try simp only [or_false, false_or, Bool.and_self, Bool.and_true, Bool.true_and, Bool.and_false, Bool.false_and, Bool.not_not, Int.cast_ofNat_Int, beq_self_eq_true, Heap.set_same, Heap.set_set, Heap.kill_kset, Int.toNat_natCast, Int.natCast_nonneg, Int.ofNat_lt, Int.ofNat_le, Int.natCast_inj, pmC, pmE, pmS, pmV, pmK, pmQ, pmL, pmX, pmF, pmO, pmA, pmR, pmW, pmB, Option.isSome_some, ft, olds_ints, olds_bools, ↓reduceIte, Nat.reduceEqDiff, reduceCtorEq, Nat.reduceAdd, Nat.reduceMul, Nat.reduceLeDiff, Nat.reduceLT, Int.reduceLE, Int.reduceLT, Int.reduceEq, Int.reduceToNat, Nat.zero_mul, Nat.zero_add, Nat.mul_one, ne_eq, not_false_eq_true, not_true_eq_false, true_and, and_true, decide_true, decide_false, Bool.not_true, Bool.not_false, Bool.false_eq_true, and_self, Nat.add_zero]
    exact (Acc.nil _ _ 1).fin lh (by simpa [olds] using k)
  · try simp only [or_false, false_or, Bool.and_self, Bool.and_true, Bool.true_and, Bool.and_false, Bool.false_and, Bool.not_not, Int.cast_ofNat_Int, beq_self_eq_true, Heap.set_same, Heap.set_set, Heap.kill_kset, Int.toNat_natCast, Int.natCast_nonneg, Int.ofNat_lt, Int.ofNat_le, Int.natCast_inj, pmC, pmE, pmS, pmV, pmK, pmQ, pmL, pmX, pmF, pmO, pmA, pmR, pmW, pmB, Option.isSome_some, ft, olds_ints, olds_bools, ↓reduceIte, Nat.reduceEqDiff, reduceCtorEq, Nat.reduceAdd, Nat.reduceMul, Nat.reduceLeDiff, Nat.reduceLT, Int.reduceLE, Int.reduceLT, Int.reduceEq, Int.reduceToNat, Nat.zero_mul, Nat.zero_add, Nat.mul_one, ne_eq, not_false_eq_true, not_true_eq_false, true_and, and_true, decide_true, decide_false, Bool.not_true, Bool.not_false, Bool.false_eq_true, and_self, Nat.add_zero]
    refine SortI X hl b _ hb ?_
    try simp only [or_false, false_or, Bool.and_self, Bool.and_true, Bool.true_and, Bool.and_false, Bool.false_and, Bool.not_not, Int.cast_ofNat_Int, beq_self_eq_true, Heap.set_same, Heap.set_set, Heap.kill_kset, Int.toNat_natCast, Int.natCast_nonneg, Int.ofNat_lt, Int.ofNat_le, Int.natCast_inj, pmC, pmE, pmS, pmV, pmK, pmQ, pmL, pmX, pmF, pmO, pmA, pmR, pmW, pmB, Option.isSome_some, ft, olds_ints, olds_bools, ↓reduceIte, Nat.reduceEqDiff, reduceCtorEq, Nat.reduceAdd, Nat.reduceMul, Nat.reduceLeDiff, Nat.reduceLT, Int.reduceLE, Int.reduceLT, Int.reduceEq, Int.reduceToNat, Nat.zero_mul, Nat.zero_add, Nat.mul_one, ne_eq, not_false_eq_true, not_true_eq_false, true_and, and_true, decide_true, decide_false, Bool.not_true, Bool.not_false, Bool.false_eq_true, and_self, Nat.add_zero]
    refine Acc.fin (cs := (X.mergeSort fun x y => decide (x ≤ y)).map (.int .i64)) (Acc.buf hn (Heap.set_same _ _ _) (by simp)) (Heap.le_set lh hn) ?_
    rw [olds_ints]; exact k
end Go.Proofs.Ythoggjdkabhpkaa
