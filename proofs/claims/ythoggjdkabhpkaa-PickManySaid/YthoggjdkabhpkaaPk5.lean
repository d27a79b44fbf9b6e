/-
  What cells show (pick.Picked, and the document's), and which cells show (Cells).
  Conditions: rows of at most a million.
-/
import Derived.Test.YthoggjdkabhpkaaPk4
namespace Go.Proofs.Ythoggjdkabhpkaa
open Go.Pm
set_option maxRecDepth 100000
set_option linter.unusedSimpArgs false
set_option linter.unusedVariables false

def cutP2 (o : List Int) (p : Int × Int) : List Int := (o.drop p.1.toNat).take (p.2.toNat - p.1.toNat)
/-- Which places stand in a part. -/
def pickB (o : List Int) (p : Int × Int) : List Bool := (List.range o.length).map fun j : Nat => decide ((j : Int) ∈ cutP2 o p)
def pickP (o : List Int) (p : Int × Int) : PV := spansP (mayZ o [p]) (pickB o p)
theorem may0 {o : List Int} {p : Int × Int} (h : mayZ o [p] = 0) : permB o = true ∧ 0 ≤ p.1 ∧ p.1 < p.2 ∧ p.2 ≤ (o.length : Int) := by
  unfold mayZ at h
  split at h
  · rename_i hp
    unfold wrongS at h
    split at h
    · rename_i q; exact ⟨hp, q.1.1, q.1.2, q.2⟩
    · cases h
  · cases h
theorem pickB_len (o : List Int) (p : Int × Int) : (pickB o p).length = o.length := by simp [pickB]
theorem pickB_get (o : List Int) (p : Int × Int) {j : Nat} (h : j < o.length) : (pickB o p).getD j default = decide ((j : Int) ∈ cutP2 o p) := by
  simp [pickB, List.getD, h]
theorem nodup_cut {o : List Int} (h : o.Nodup) (p : Int × Int) : (cutP2 o p).Nodup := ((List.take_sublist _ _).trans (List.drop_sublist _ _)).nodup h
theorem cut_mem {o : List Int} {p : Int × Int} {x : Int} (h : x ∈ cutP2 o p) : x ∈ o := List.mem_of_mem_drop (List.mem_of_mem_take h)
theorem sort_trues {o : List Int} (hp : permB o = true) (p : Int × Int) : (cutP2 o p).mergeSort (fun x y => decide (x ≤ y)) = trues (pickB o p) o.length := by
  obtain ⟨h1, h2⟩ := permB_ok hp
  have tr : ∀ a b c : Int, decide (a ≤ b) = true → decide (b ≤ c) = true → decide (a ≤ c) = true := fun a b c h1 h2 => by simp at *; omega
  have to : ∀ a b : Int, (decide (a ≤ b) || decide (b ≤ a)) = true := fun a b => by simp; omega
  have r := trues_rise (pickB o p) o.length
  refine List.Perm.eq_of_pairwise (le := fun x y => decide (x ≤ y) = true) (fun a b _ _ h1 h2 => by simp at h1 h2; omega) (List.pairwise_mergeSort tr to _) (r.imp fun {a b} q => by simp; omega) ?_
  refine (List.mergeSort_perm _ _).trans ((List.perm_ext_iff_of_nodup (nodup_cut h2 p) (r.imp fun {a b} q => by omega)).2 fun x => ⟨fun hx => ?_, fun hx => ?_⟩)
  · have := h1 x (cut_mem hx)
    obtain ⟨j, rfl⟩ : ∃ j : Nat, x = j := ⟨x.toNat, by omega⟩
    exact trues_mem _ _ j (by omega) (by rw [pickB_get o p (by omega)]; simpa using hx)
  · obtain ⟨j, a, rfl, b⟩ := trues_in _ _ _ hx
    rw [pickB_get o p a] at b
    simpa using b
theorem Picked (fr : Bool) (o : List Int) (ho : o.length ≤ 1000000) (p : Int × Int) (h : Heap) {K : PV → Heap → Prop} (k : K (pickP o p) h) :
    CanP Try.prog 9 [.list fr 1 o.length (o.map (.int .i64)), .agg [.int .i64 p.1, .int .i64 p.2]] h K := by
  refine e9 rfl ?_
  try simp only [c9, r9_0, r9_1, r9_2, r9_3, r9_4, or_false, false_or, Bool.and_self, Bool.and_true, Bool.true_and, Bool.and_false, Bool.false_and, Bool.not_not, Int.cast_ofNat_Int, beq_self_eq_true, Heap.set_same, Heap.set_set, Heap.kill_kset, Int.toNat_natCast, Int.natCast_nonneg, Int.ofNat_lt, Int.ofNat_le, Int.natCast_inj, pmC, pmE, pmS, pmV, pmK, pmQ, pmL, pmX, pmF, pmO, pmA, pmR, pmW, pmB, Option.isSome_some, ft, olds_ints, olds_bools, ↓reduceIte, Nat.reduceEqDiff, reduceCtorEq, Nat.reduceAdd, Nat.reduceMul, Nat.reduceLeDiff, Nat.reduceLT, Int.reduceLE, Int.reduceLT, Int.reduceEq, Int.reduceToNat, Nat.zero_mul, Nat.zero_add, Nat.mul_one, ne_eq, not_false_eq_true, not_true_eq_false, true_and, and_true, decide_true, decide_false, Bool.not_true, Bool.not_false, Bool.false_eq_true, and_self, Nat.add_zero]
  refine may _ _ o ho [p] (by simp) _ ?_
  try simp only [or_false, false_or, Bool.and_self, Bool.and_true, Bool.true_and, Bool.and_false, Bool.false_and, Bool.not_not, Int.cast_ofNat_Int, beq_self_eq_true, Heap.set_same, Heap.set_set, Heap.kill_kset, Int.toNat_natCast, Int.natCast_nonneg, Int.ofNat_lt, Int.ofNat_le, Int.natCast_inj, pmC, pmE, pmS, pmV, pmK, pmQ, pmL, pmX, pmF, pmO, pmA, pmR, pmW, pmB, Option.isSome_some, ft, olds_ints, olds_bools, ↓reduceIte, Nat.reduceEqDiff, reduceCtorEq, Nat.reduceAdd, Nat.reduceMul, Nat.reduceLeDiff, Nat.reduceLT, Int.reduceLE, Int.reduceLT, Int.reduceEq, Int.reduceToNat, Nat.zero_mul, Nat.zero_add, Nat.mul_one, ne_eq, not_false_eq_true, not_true_eq_false, true_and, and_true, decide_true, decide_false, Bool.not_true, Bool.not_false, Bool.false_eq_true, and_self, Nat.add_zero]
  by_cases he : mayZ o [p] = 0
  · have hd : decide (mayZ o [p] = 0) = true := decide_eq_true he
    rw [pickP, spansP, if_pos he] at k
    obtain ⟨hp, h1, h2, h3⟩ := may0 he
    have hst := sort_trues hp p
    obtain ⟨lo, hlo⟩ : ∃ j : Nat, p.1 = j := ⟨p.1.toNat, by omega⟩
    obtain ⟨hi, hhi⟩ : ∃ j : Nat, p.2 = j := ⟨p.2.toNat, by omega⟩
    have hm := spn_merged (pickB o p)
    rw [pickB_len] at hm
    have hin : ∀ x ∈ trues (pickB o p) o.length, 0 ≤ x ∧ x ≤ 1000000 := fun x hx => by
      obtain ⟨j, a, rfl, _⟩ := trues_in _ _ _ hx; omega
    have htl := trues_len (pickB o p) o.length
    have hcl : (cutP2 o p).length = hi - lo := by simp [cutP2, hlo, hhi]; omega
    have hcs : ((o.map (PV.int .i64)).drop (lo * 1)).take ((hi - lo) * 1) = (cutP2 o p).map (.int .i64) := by simp [cutP2, hlo, hhi, List.map_drop, List.map_take]
    generalize pickB o p = B at *
    generalize trues B o.length = T at *
    have hsl := fun (K : Kt) (h : Heap) (k : Option Nat) (fr : Bool) => slcL_both (k := k) (E := 1) (fr := fr) (cs := o.map (PV.int .i64)) (K := K) (h := h) (n := o.length) (show lo ≤ hi by omega) (show hi ≤ o.length by omega)
    rw [hcs, ← hcl] at hsl
    try simp only [hd, he, hlo, hhi, hsl, or_false, false_or, Bool.and_self, Bool.and_true, Bool.true_and, Bool.and_false, Bool.false_and, Bool.not_not, Int.cast_ofNat_Int, beq_self_eq_true, Heap.set_same, Heap.set_set, Heap.kill_kset, Int.toNat_natCast, Int.natCast_nonneg, Int.ofNat_lt, Int.ofNat_le, Int.natCast_inj, pmC, pmE, pmS, pmV, pmK, pmQ, pmL, pmX, pmF, pmO, pmA, pmR, pmW, pmB, Option.isSome_some, ft, olds_ints, olds_bools, ↓reduceIte, Nat.reduceEqDiff, reduceCtorEq, Nat.reduceAdd, Nat.reduceMul, Nat.reduceLeDiff, Nat.reduceLT, Int.reduceLE, Int.reduceLT, Int.reduceEq, Int.reduceToNat, Nat.zero_mul, Nat.zero_add, Nat.mul_one, ne_eq, not_false_eq_true, not_true_eq_false, true_and, and_true, decide_true, decide_false, Bool.not_true, Bool.not_false, Bool.false_eq_true, and_self, Nat.add_zero]
    refine Values _ _ _ _ ?_
    try simp only [or_false, false_or, Bool.and_self, Bool.and_true, Bool.true_and, Bool.and_false, Bool.false_and, Bool.not_not, Int.cast_ofNat_Int, beq_self_eq_true, Heap.set_same, Heap.set_set, Heap.kill_kset, Int.toNat_natCast, Int.natCast_nonneg, Int.ofNat_lt, Int.ofNat_le, Int.natCast_inj, pmC, pmE, pmS, pmV, pmK, pmQ, pmL, pmX, pmF, pmO, pmA, pmR, pmW, pmB, Option.isSome_some, ft, olds_ints, olds_bools, ↓reduceIte, Nat.reduceEqDiff, reduceCtorEq, Nat.reduceAdd, Nat.reduceMul, Nat.reduceLeDiff, Nat.reduceLT, Int.reduceLE, Int.reduceLT, Int.reduceEq, Int.reduceToNat, Nat.zero_mul, Nat.zero_add, Nat.mul_one, ne_eq, not_false_eq_true, not_true_eq_false, true_and, and_true, decide_true, decide_false, Bool.not_true, Bool.not_false, Bool.false_eq_true, and_self, Nat.add_zero]
    refine Sorted _ (cutP2 o p) (by omega) _ ?_
    have hL : (cutP2 o p).length = T.length := by rw [← hst, List.length_mergeSort]
    rw [hst, hL]
    try simp only [or_false, false_or, Bool.and_self, Bool.and_true, Bool.true_and, Bool.and_false, Bool.false_and, Bool.not_not, Int.cast_ofNat_Int, beq_self_eq_true, Heap.set_same, Heap.set_set, Heap.kill_kset, Int.toNat_natCast, Int.natCast_nonneg, Int.ofNat_lt, Int.ofNat_le, Int.natCast_inj, pmC, pmE, pmS, pmV, pmK, pmQ, pmL, pmX, pmF, pmO, pmA, pmR, pmW, pmB, Option.isSome_some, ft, olds_ints, olds_bools, ↓reduceIte, Nat.reduceEqDiff, reduceCtorEq, Nat.reduceAdd, Nat.reduceMul, Nat.reduceLeDiff, Nat.reduceLT, Int.reduceLE, Int.reduceLT, Int.reduceEq, Int.reduceToNat, Nat.zero_mul, Nat.zero_add, Nat.mul_one, ne_eq, not_false_eq_true, not_true_eq_false, true_and, and_true, decide_true, decide_false, Bool.not_true, Bool.not_false, Bool.false_eq_true, and_self, Nat.add_zero]
    refine merged _ T (by omega) hin _ ?_
    try simp only [or_false, false_or, Bool.and_self, Bool.and_true, Bool.true_and, Bool.and_false, Bool.false_and, Bool.not_not, Int.cast_ofNat_Int, beq_self_eq_true, Heap.set_same, Heap.set_set, Heap.kill_kset, Int.toNat_natCast, Int.natCast_nonneg, Int.ofNat_lt, Int.ofNat_le, Int.natCast_inj, pmC, pmE, pmS, pmV, pmK, pmQ, pmL, pmX, pmF, pmO, pmA, pmR, pmW, pmB, Option.isSome_some, ft, olds_ints, olds_bools, ↓reduceIte, Nat.reduceEqDiff, reduceCtorEq, Nat.reduceAdd, Nat.reduceMul, Nat.reduceLeDiff, Nat.reduceLT, Int.reduceLE, Int.reduceLT, Int.reduceEq, Int.reduceToNat, Nat.zero_mul, Nat.zero_add, Nat.mul_one, ne_eq, not_false_eq_true, not_true_eq_false, true_and, and_true, decide_true, decide_false, Bool.not_true, Bool.not_false, Bool.false_eq_true, and_self, Nat.add_zero]
    refine finK_le (Heap.le_refl _) ?_
    rw [hm]
    exact k
  · have hd : decide (mayZ o [p] = 0) = false := decide_eq_false he
    rw [pickP, spansP, if_neg he] at k
    try simp only [hd, he, or_false, false_or, Bool.and_self, Bool.and_true, Bool.true_and, Bool.and_false, Bool.false_and, Bool.not_not, Int.cast_ofNat_Int, beq_self_eq_true, Heap.set_same, Heap.set_set, Heap.kill_kset, Int.toNat_natCast, Int.natCast_nonneg, Int.ofNat_lt, Int.ofNat_le, Int.natCast_inj, pmC, pmE, pmS, pmV, pmK, pmQ, pmL, pmX, pmF, pmO, pmA, pmR, pmW, pmB, Option.isSome_some, ft, olds_ints, olds_bools, ↓reduceIte, Nat.reduceEqDiff, reduceCtorEq, Nat.reduceAdd, Nat.reduceMul, Nat.reduceLeDiff, Nat.reduceLT, Int.reduceLE, Int.reduceLT, Int.reduceEq, Int.reduceToNat, Nat.zero_mul, Nat.zero_add, Nat.mul_one, ne_eq, not_false_eq_true, not_true_eq_false, true_and, and_true, decide_true, decide_false, Bool.not_true, Bool.not_false, Bool.false_eq_true, and_self, Nat.add_zero]
    exact (Acc.nil _ _ 2).fin2 (Heap.le_refl _) (by simpa [olds] using k)
theorem PickedR (fr : Bool) (o : List Int) (ho : o.length ≤ 1000000) (p : Int × Int) (h : Heap) {K : PV → Heap → Prop} (k : K (pickP o p) h) :
    CanP Try.prog 13 [.list fr 1 o.length (o.map (.int .i64)), .agg [.int .i64 p.1, .int .i64 p.2]] h K := by
  refine e13 rfl ?_
  try simp only [c13, r13_0, r13_1, r13_2, r13_3, r13_4, r13_5, r13_6, r13_7, r13_8, r13_9, or_false, false_or, Bool.and_self, Bool.and_true, Bool.true_and, Bool.and_false, Bool.false_and, Bool.not_not, Int.cast_ofNat_Int, beq_self_eq_true, Heap.set_same, Heap.set_set, Heap.kill_kset, Int.toNat_natCast, Int.natCast_nonneg, Int.ofNat_lt, Int.ofNat_le, Int.natCast_inj, pmC, pmE, pmS, pmV, pmK, pmQ, pmL, pmX, pmF, pmO, pmA, pmR, pmW, pmB, Option.isSome_some, ft, olds_ints, olds_bools, ↓reduceIte, Nat.reduceEqDiff, reduceCtorEq, Nat.reduceAdd, Nat.reduceMul, Nat.reduceLeDiff, Nat.reduceLT, Int.reduceLE, Int.reduceLT, Int.reduceEq, Int.reduceToNat, Nat.zero_mul, Nat.zero_add, Nat.mul_one, ne_eq, not_false_eq_true, not_true_eq_false, true_and, and_true, decide_true, decide_false, Bool.not_true, Bool.not_false, Bool.false_eq_true, and_self, Nat.add_zero]
  refine mayR _ o ho p _ ?_
  try simp only [or_false, false_or, Bool.and_self, Bool.and_true, Bool.true_and, Bool.and_false, Bool.false_and, Bool.not_not, Int.cast_ofNat_Int, beq_self_eq_true, Heap.set_same, Heap.set_set, Heap.kill_kset, Int.toNat_natCast, Int.natCast_nonneg, Int.ofNat_lt, Int.ofNat_le, Int.natCast_inj, pmC, pmE, pmS, pmV, pmK, pmQ, pmL, pmX, pmF, pmO, pmA, pmR, pmW, pmB, Option.isSome_some, ft, olds_ints, olds_bools, ↓reduceIte, Nat.reduceEqDiff, reduceCtorEq, Nat.reduceAdd, Nat.reduceMul, Nat.reduceLeDiff, Nat.reduceLT, Int.reduceLE, Int.reduceLT, Int.reduceEq, Int.reduceToNat, Nat.zero_mul, Nat.zero_add, Nat.mul_one, ne_eq, not_false_eq_true, not_true_eq_false, true_and, and_true, decide_true, decide_false, Bool.not_true, Bool.not_false, Bool.false_eq_true, and_self, Nat.add_zero]
  by_cases he : mayZ o [p] = 0
  · have hd : decide (mayZ o [p] = 0) = true := decide_eq_true he
    rw [pickP, spansP, if_pos he] at k
    obtain ⟨hp, h1, h2, h3⟩ := may0 he
    obtain ⟨hin, -⟩ := permB_ok hp
    obtain ⟨lo, hlo⟩ : ∃ j : Nat, p.1 = j := ⟨p.1.toNat, by omega⟩
    obtain ⟨hi, hhi⟩ : ∃ j : Nat, p.2 = j := ⟨p.2.toNat, by omega⟩
    try simp only [hd, he, hlo, hhi, or_false, false_or, Bool.and_self, Bool.and_true, Bool.true_and, Bool.and_false, Bool.false_and, Bool.not_not, Int.cast_ofNat_Int, beq_self_eq_true, Heap.set_same, Heap.set_set, Heap.kill_kset, Int.toNat_natCast, Int.natCast_nonneg, Int.ofNat_lt, Int.ofNat_le, Int.natCast_inj, pmC, pmE, pmS, pmV, pmK, pmQ, pmL, pmX, pmF, pmO, pmA, pmR, pmW, pmB, Option.isSome_some, ft, olds_ints, olds_bools, ↓reduceIte, Nat.reduceEqDiff, reduceCtorEq, Nat.reduceAdd, Nat.reduceMul, Nat.reduceLeDiff, Nat.reduceLT, Int.reduceLE, Int.reduceLT, Int.reduceEq, Int.reduceToNat, Nat.zero_mul, Nat.zero_add, Nat.mul_one, ne_eq, not_false_eq_true, not_true_eq_false, true_and, and_true, decide_true, decide_false, Bool.not_true, Bool.not_false, Bool.false_eq_true, and_self, Nat.add_zero]
    refine ⟨Nat.le_refl _, by omega, by omega, fun b hb => ?_⟩
    try simp only [or_false, false_or, Bool.and_self, Bool.and_true, Bool.true_and, Bool.and_false, Bool.false_and, Bool.not_not, Int.cast_ofNat_Int, beq_self_eq_true, Heap.set_same, Heap.set_set, Heap.kill_kset, Int.toNat_natCast, Int.natCast_nonneg, Int.ofNat_lt, Int.ofNat_le, Int.natCast_inj, pmC, pmE, pmS, pmV, pmK, pmQ, pmL, pmX, pmF, pmO, pmA, pmR, pmW, pmB, Option.isSome_some, ft, olds_ints, olds_bools, ↓reduceIte, Nat.reduceEqDiff, reduceCtorEq, Nat.reduceAdd, Nat.reduceMul, Nat.reduceLeDiff, Nat.reduceLT, Int.reduceLE, Int.reduceLT, Int.reduceEq, Int.reduceToNat, Nat.zero_mul, Nat.zero_add, Nat.mul_one, ne_eq, not_false_eq_true, not_true_eq_false, true_and, and_true, decide_true, decide_false, Bool.not_true, Bool.not_false, Bool.false_eq_true, and_self, Nat.add_zero]
    have e0 : rep o.length [PV.bool false] = (List.replicate o.length false).map PV.bool := rep_map PV.bool false _
    rw [e0]
    refine pwp_up (hi - lo) (fun i σ h' => (∃ C : List Bool, C.length = o.length ∧ h' = h.set b (C.map .bool) ∧ ∀ j, j < o.length → (C.getD j default = true ↔ (j : Int) ∈ (o.drop lo).take i)) ∧ (∃ fr, σ 3 = .fptr fr [.int .i64 lo, .int .i64 hi] 0) ∧ σ 0 = .list false 1 o.length (o.map (.int .i64)) ∧ σ 7 = .buf b 1 0 o.length ∧ σ 8 = .int .i64 ((lo + i : Nat) : Int)) ?_ ?_
    · refine ⟨⟨List.replicate o.length false, by simp, rfl, fun j hj => ?_⟩, ⟨_, rfl⟩, rfl, rfl, rfl⟩
      simp [List.getD, hj]
    rintro i σ h' K' hi9 ⟨⟨C, hC, rfl, hm⟩, ⟨fr3, s3⟩, s0, s7, s8⟩ next
    rcases Nat.lt_or_ge i (hi - lo) with hlt | hge
    · have hw : IntKind.i64.wrap (((lo + i : Nat) : Int) + 1) = ((lo + (i + 1) : Nat) : Int) := by rw [wrap_in (by omega) (by omega)]; omega
      have hli : lo + i < o.length := by omega
      have hlt' : lo + i < hi := by omega
      have hx := getm (PV.int .i64) o hli
      have hxm := hin _ (get_mem o hli)
      have htk : (o.drop lo).take (i + 1) = (o.drop lo).take i ++ [o.getD (lo + i) default] := by
        rw [take_next _ (by rw [List.length_drop]; omega)]
        simp [List.getD]
      generalize o.getD (lo + i) default = x at *
      obtain ⟨j, rfl⟩ : ∃ j : Nat, x = j := ⟨x.toNat, by omega⟩
      have hj : j < o.length := by omega
      have hjC : j < C.length := by omega
      have hCl : (C.map PV.bool).length = o.length := by simp [hC]
      have hws := wr_map PV.bool true C hjC
      try simp only [s0, s3, s7, s8, hli, hlt', hx, hw, hj, hCl, hws, hC, or_false, false_or, Bool.and_self, Bool.and_true, Bool.true_and, Bool.and_false, Bool.false_and, Bool.not_not, Int.cast_ofNat_Int, beq_self_eq_true, Heap.set_same, Heap.set_set, Heap.kill_kset, Int.toNat_natCast, Int.natCast_nonneg, Int.ofNat_lt, Int.ofNat_le, Int.natCast_inj, pmC, pmE, pmS, pmV, pmK, pmQ, pmL, pmX, pmF, pmO, pmA, pmR, pmW, pmB, Option.isSome_some, ft, olds_ints, olds_bools, ↓reduceIte, Nat.reduceEqDiff, reduceCtorEq, Nat.reduceAdd, Nat.reduceMul, Nat.reduceLeDiff, Nat.reduceLT, Int.reduceLE, Int.reduceLT, Int.reduceEq, Int.reduceToNat, Nat.zero_mul, Nat.zero_add, Nat.mul_one, ne_eq, not_false_eq_true, not_true_eq_false, true_and, and_true, decide_true, decide_false, Bool.not_true, Bool.not_false, Bool.false_eq_true, and_self, Nat.add_zero]
      refine ⟨by omega, next hlt _ _ ?_⟩
      refine ⟨⟨C.set j true, by simp [hC], rfl, fun q hq => ?_⟩, ⟨fr3, by simp [put, s3]⟩, by simp [put, s0], by simp [put, s7], by simp [put]⟩
      rw [htk, List.mem_append, List.mem_singleton]
      by_cases hqj : q = j
      · subst hqj
        simp [List.getD, hjC]
      · have : (C.set j true).getD q default = C.getD q default := by simp [List.getD, List.getElem?_set, Ne.symm hqj]
        rw [this, hm q hq]
        constructor
        · exact .inl
        · rintro (e | e)
          · exact e
          · omega
    · have e : i = hi - lo := by omega
      subst e
      have e2 : lo + (hi - lo) = hi := by omega
      rw [e2] at s8
      have hnl := Nat.lt_irrefl hi
      have hCB : C = pickB o p := by
        apply List.ext_getElem (by rw [hC, pickB_len])
        intro q q1 q2
        have a := hm q (by omega)
        have b := pickB_get o p (j := q) (by omega)
        rw [List.getD, List.getElem?_eq_getElem q1] at a
        rw [List.getD, List.getElem?_eq_getElem q2] at b
        simp only [Option.getD_some] at a b
        rw [b]
        have hc : cutP2 o p = (o.drop lo).take (hi - lo) := by simp [cutP2, hlo, hhi]
        rw [hc]
        cases hq : C[q]
        · rw [hq] at a
          exact (decide_eq_false (fun e => by simpa using a.2 e)).symm
        · exact (decide_eq_true (a.1 hq)).symm
      have hJl : o.length ≤ (C.map PV.bool).length := by simp; omega
      have hJt : (C.map PV.bool).take o.length = C.map PV.bool := List.take_of_length_le (by simp; omega)
      try simp only [s0, s3, s7, s8, hnl, hJl, hJt, or_false, false_or, Bool.and_self, Bool.and_true, Bool.true_and, Bool.and_false, Bool.false_and, Bool.not_not, Int.cast_ofNat_Int, beq_self_eq_true, Heap.set_same, Heap.set_set, Heap.kill_kset, Int.toNat_natCast, Int.natCast_nonneg, Int.ofNat_lt, Int.ofNat_le, Int.natCast_inj, pmC, pmE, pmS, pmV, pmK, pmQ, pmL, pmX, pmF, pmO, pmA, pmR, pmW, pmB, Option.isSome_some, ft, olds_ints, olds_bools, ↓reduceIte, Nat.reduceEqDiff, reduceCtorEq, Nat.reduceAdd, Nat.reduceMul, Nat.reduceLeDiff, Nat.reduceLT, Int.reduceLE, Int.reduceLT, Int.reduceEq, Int.reduceToNat, Nat.zero_mul, Nat.zero_add, Nat.mul_one, ne_eq, not_false_eq_true, not_true_eq_false, true_and, and_true, decide_true, decide_false, Bool.not_true, Bool.not_false, Bool.false_eq_true, and_self, Nat.add_zero]
      rw [← hC]
      refine spansR _ C (by omega) _ ?_
      try simp only [or_false, false_or, Bool.and_self, Bool.and_true, Bool.true_and, Bool.and_false, Bool.false_and, Bool.not_not, Int.cast_ofNat_Int, beq_self_eq_true, Heap.set_same, Heap.set_set, Heap.kill_kset, Int.toNat_natCast, Int.natCast_nonneg, Int.ofNat_lt, Int.ofNat_le, Int.natCast_inj, pmC, pmE, pmS, pmV, pmK, pmQ, pmL, pmX, pmF, pmO, pmA, pmR, pmW, pmB, Option.isSome_some, ft, olds_ints, olds_bools, ↓reduceIte, Nat.reduceEqDiff, reduceCtorEq, Nat.reduceAdd, Nat.reduceMul, Nat.reduceLeDiff, Nat.reduceLT, Int.reduceLE, Int.reduceLT, Int.reduceEq, Int.reduceToNat, Nat.zero_mul, Nat.zero_add, Nat.mul_one, ne_eq, not_false_eq_true, not_true_eq_false, true_and, and_true, decide_true, decide_false, Bool.not_true, Bool.not_false, Bool.false_eq_true, and_self, Nat.add_zero]
      rw [hCB]
      exact finK_le (Heap.le_kill (Heap.le_refl _) hb) k
  · have hd : decide (mayZ o [p] = 0) = false := decide_eq_false he
    rw [pickP, spansP, if_neg he] at k
    try simp only [hd, he, or_false, false_or, Bool.and_self, Bool.and_true, Bool.true_and, Bool.and_false, Bool.false_and, Bool.not_not, Int.cast_ofNat_Int, beq_self_eq_true, Heap.set_same, Heap.set_set, Heap.kill_kset, Int.toNat_natCast, Int.natCast_nonneg, Int.ofNat_lt, Int.ofNat_le, Int.natCast_inj, pmC, pmE, pmS, pmV, pmK, pmQ, pmL, pmX, pmF, pmO, pmA, pmR, pmW, pmB, Option.isSome_some, ft, olds_ints, olds_bools, ↓reduceIte, Nat.reduceEqDiff, reduceCtorEq, Nat.reduceAdd, Nat.reduceMul, Nat.reduceLeDiff, Nat.reduceLT, Int.reduceLE, Int.reduceLT, Int.reduceEq, Int.reduceToNat, Nat.zero_mul, Nat.zero_add, Nat.mul_one, ne_eq, not_false_eq_true, not_true_eq_false, true_and, and_true, decide_true, decide_false, Bool.not_true, Bool.not_false, Bool.false_eq_true, and_self, Nat.add_zero]
    exact (Acc.nil _ _ 2).fin2 (Heap.le_refl _) (by simpa [olds] using k)
end Go.Proofs.Ythoggjdkabhpkaa
