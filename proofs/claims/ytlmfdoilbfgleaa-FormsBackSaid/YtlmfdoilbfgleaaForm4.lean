/-
  The law FormsBack: a form is its letter's, and no code is of two kinds.
  Conditions: none but those that each sentence tells.
-/
import Derived.Test.YtlmfdoilbfgleaaForm3
namespace Go.Proofs.Ytlmfdoilbfgleaa
open Go.Pm
set_option maxRecDepth 100000
set_option linter.unusedSimpArgs false
set_option linter.unusedVariables false

theorem back_all : (lets.all fun p => ([1, 2, 3, 4] : List Int).all fun f => decide ((fl p).getD (f - 1).toNat default = 0) || (decide (baseF lets ((fl p).getD (f - 1).toNat default) = (p.1, f, true)))) = true := by kernel_rfl
theorem lig_all : (ligs.all fun x => decide (partP ligs x.2.1 = (x.1, 1, true)) && decide (partP ligs x.2.2 = (x.1, 2, true))) = true := by kernel_rfl
theorem form_one : (lets.all fun p => (fl p).all fun c => decide (c = 0) || (!(partP ligs c).2.2 && (!(markP accs c).2.2 && !(unpP pils c).2))) = true := by kernel_rfl
theorem lig_one : (ligs.all fun x => (!(markP accs x.2.1).2.2 && !(unpP pils x.2.1).2) && (!(markP accs x.2.2).2.2 && !(unpP pils x.2.2).2)) = true := by kernel_rfl
theorem acc_one : (accs.all fun x => !(unpP pils x.2.1).2 && !(unpP pils x.2.2).2) = true := by kernel_rfl
theorem form_back {b f a : Int} (h : formF lets b f = (a, true)) : baseF lets a = (b, f, true) := by
  unfold formF at h
  cases e : lets.find? (formQ b f) with
  | none => rw [e] at h; cases h
  | some p =>
    rw [e] at h
    have h1 := List.find?_some e
    have h2 := List.mem_of_find?_eq_some e
    have hc := List.all_eq_true.1 back_all p h2
    simp only [formQ, Bool.and_eq_true, decide_eq_true_eq] at h1
    have hf : f = 1 ∨ f = 2 ∨ f = 3 ∨ f = 4 := by omega
    have hc2 := List.all_eq_true.1 hc f (by rcases hf with e | e | e | e <;> simp [e])
    simp only [Bool.or_eq_true, decide_eq_true_eq] at hc2
    simp only [Prod.mk.injEq, and_true] at h
    rcases hc2 with hc2 | hc2
    · exact absurd hc2 h1.2.2
    · rw [h, h1.1] at hc2; exact hc2
theorem form_pres {b f a : Int} (h : formF lets b f = (a, true)) : presB a = true := by
  rw [presB, form_back h]; simp
theorem lig_back {b f a : Int} (h : ligP b f = (a, true)) : partP ligs a = (b, f, true) := by
  unfold ligP at h
  cases e : ligs.find? (fun x => decide (x.1 = b)) with
  | none => rw [e] at h; cases h
  | some x =>
    rw [e] at h
    have h1 := List.find?_some e
    have h2 := List.all_eq_true.1 lig_all x (List.mem_of_find?_eq_some e)
    simp only [decide_eq_true_eq] at h1
    simp only [Bool.and_eq_true, decide_eq_true_eq] at h2
    dsimp only at h
    split at h
    · rename_i hf; simp only [Prod.mk.injEq, and_true] at h; rw [← h, h2.1, h1, hf]
    · split at h
      · rename_i hf; simp only [Prod.mk.injEq, and_true] at h; rw [← h, h2.2, h1, hf]
      · cases h
theorem base_in {c : Int} (h : (baseF lets c).2.2 = true) : (partP ligs c).2.2 = false ∧ (markP accs c).2.2 = false ∧ (unpP pils c).2 = false := by
  unfold baseF at h
  cases e : lets.find? (fun p => (fl p).any (isF c)) with
  | none => rw [e] at h; cases h
  | some p =>
    obtain ⟨x, hx, hxc⟩ := List.any_eq_true.1 (List.find?_some (p := fun p => (fl p).any (isF c)) e)
    simp only [isF, Bool.and_eq_true, decide_eq_true_eq] at hxc
    have h2 := List.all_eq_true.1 (List.all_eq_true.1 form_one p (List.mem_of_find?_eq_some e)) x hx
    rw [hxc.2] at h2
    simp only [Bool.or_eq_true, decide_eq_true_eq, Bool.and_eq_true, Bool.not_eq_true'] at h2
    rcases h2 with h2 | h2
    · exact absurd (hxc.2.trans h2) hxc.1
    · exact h2
theorem part_in {c : Int} (h : (partP ligs c).2.2 = true) : (markP accs c).2.2 = false ∧ (unpP pils c).2 = false := by
  unfold partP at h
  cases e : ligs.find? (partQ c) with
  | none => rw [e] at h; cases h
  | some x =>
    have h1 := List.find?_some e
    have h2 := List.all_eq_true.1 lig_one x (List.mem_of_find?_eq_some e)
    simp only [partQ, Bool.or_eq_true, decide_eq_true_eq] at h1
    simp only [Bool.and_eq_true, Bool.not_eq_true'] at h2
    rcases h1 with h1 | h1
    · rw [h1] at h2; exact h2.1
    · rw [h1] at h2; exact h2.2
theorem mark_in {c : Int} (h : (markP accs c).2.2 = true) : (unpP pils c).2 = false := by
  unfold markP at h
  cases e : accs.find? (markQ c) with
  | none => rw [e] at h; cases h
  | some x =>
    have h1 := List.find?_some e
    have h2 := List.all_eq_true.1 acc_one x (List.mem_of_find?_eq_some e)
    simp only [markQ, Bool.or_eq_true, Bool.and_eq_true, decide_eq_true_eq] at h1
    simp only [Bool.and_eq_true, Bool.not_eq_true'] at h2
    rcases h1 with h1 | h1
    · rw [h1] at h2; exact h2.1
    · rw [h1.2] at h2; exact h2.2
def kin (c : Int) : List Bool := [(baseF lets c).2.2, (partP ligs c).2.2, (markP accs c).2.2, (unpP pils c).2]
theorem kin_one (c : Int) : (kin c).count true ≤ 1 := by
  have h1 := @base_in c
  have h2 := @part_in c
  have h3 := @mark_in c
  unfold kin
  generalize (baseF lets c).2.2 = a1 at *
  generalize (partP ligs c).2.2 = a2 at *
  generalize (markP accs c).2.2 = a3 at *
  generalize (unpP pils c).2 = a4 at *
  revert h1 h2 h3
  revert a1 a2 a3 a4
  decide
theorem count_take (l : List Bool) {i : Nat} (h : i < l.length) : (l.take (i + 1)).count true = (l.take i).count true + (if l.getD i default = true then 1 else 0) := by
  rw [List.take_succ_eq_append_getElem h, List.count_append]
  simp only [List.getD, List.getElem?_eq_getElem h, Option.getD_some]
  cases l[i] <;> simp
def restB : PC := (.seq (.reg false r6_11) (.seq (.reg false r6_12) (.seq (.reg false r6_13) (.seq (.reg false r6_14) (.seq (.reg false r6_15) (.seq (.seq (.reg false r6_16) (.block 0 (.loop (.seq (.reg false r6_17) (.seq (.cond (.tmp 116) .skip (.exit 0)) (.seq (.block 1 (.seq (.reg false r6_18) (.seq (.reg false r6_19) (.cond (.tmp 119) (.reg false r6_20) .skip)))) (.reg false r6_21))))))) (.seq (.reg false r6_22) .ret)))))))
theorem codeB : c6 = .seq (.reg false r6_0) (.seq (.seq (.reg false r6_1) (.seq (.reg false r6_2) (.cond (.tmp 37) (.seq (.reg false r6_3) (.seq (.reg false r6_4) (.cond (.tmp 60) (.seq (.reg false r6_5) .ret) .skip))) .skip))) (.seq (.seq (.reg false r6_6) (.seq (.reg false r6_7) (.cond (.tmp 67) (.seq (.reg false r6_8) (.seq (.reg false r6_9) (.cond (.tmp 85) (.seq (.reg false r6_10) .ret) .skip))) .skip))) restB)) := rfl
theorem lastB (c : Int) (σ : Sl) (h : Heap) {K : PV → Heap → Prop} (k : K (.bool true) h) (s2 : σ 2 = .int .i64 c) : pwp Try.prog [] restB (fin Try.prog [.tmp 6] h K) σ h := by
  have hk := kin_one c
  have ek : [PV.bool (baseF lets c).2.2, PV.bool (partP ligs c).2.2, PV.bool (markP accs c).2.2, PV.bool (unpP pils c).2] = (kin c).map .bool := rfl
  try simp only [restB, r6_11, r6_12, r6_13, r6_14, r6_15, r6_16, r6_17, r6_18, r6_19, r6_20, r6_21, r6_22, s2, or_false, false_or, Bool.and_self, Bool.and_true, Bool.true_and, Bool.and_false, Bool.false_and, Bool.not_not, Int.cast_ofNat_Int, beq_self_eq_true, Heap.set_same, Heap.set_set, Heap.kill_kset, Int.toNat_natCast, Int.natCast_nonneg, Int.ofNat_lt, Int.ofNat_le, Int.natCast_inj, pmC, pmE, pmS, pmV, pmK, pmQ, pmL, pmX, pmF, pmO, pmA, pmR, pmW, pmB, Option.isSome_some, ft, olds_ints, olds_bools, ↓reduceIte, Nat.reduceEqDiff, reduceCtorEq, Nat.reduceAdd, Nat.reduceMul, Nat.reduceLeDiff, Nat.reduceLT, Int.reduceLE, Int.reduceLT, Int.reduceEq, Int.reduceToNat, Nat.zero_mul, Nat.zero_add, Nat.mul_one, ne_eq, not_false_eq_true, not_true_eq_false, true_and, and_true, decide_true, decide_false, Bool.not_true, Bool.not_false, Bool.false_eq_true, and_self, Nat.add_zero]
  refine Base _ _ ?_
  try simp only [baseP, s2, or_false, false_or, Bool.and_self, Bool.and_true, Bool.true_and, Bool.and_false, Bool.false_and, Bool.not_not, Int.cast_ofNat_Int, beq_self_eq_true, Heap.set_same, Heap.set_set, Heap.kill_kset, Int.toNat_natCast, Int.natCast_nonneg, Int.ofNat_lt, Int.ofNat_le, Int.natCast_inj, pmC, pmE, pmS, pmV, pmK, pmQ, pmL, pmX, pmF, pmO, pmA, pmR, pmW, pmB, Option.isSome_some, ft, olds_ints, olds_bools, ↓reduceIte, Nat.reduceEqDiff, reduceCtorEq, Nat.reduceAdd, Nat.reduceMul, Nat.reduceLeDiff, Nat.reduceLT, Int.reduceLE, Int.reduceLT, Int.reduceEq, Int.reduceToNat, Nat.zero_mul, Nat.zero_add, Nat.mul_one, ne_eq, not_false_eq_true, not_true_eq_false, true_and, and_true, decide_true, decide_false, Bool.not_true, Bool.not_false, Bool.false_eq_true, and_self, Nat.add_zero]
  refine Parted _ _ ?_
  try simp only [t3, s2, or_false, false_or, Bool.and_self, Bool.and_true, Bool.true_and, Bool.and_false, Bool.false_and, Bool.not_not, Int.cast_ofNat_Int, beq_self_eq_true, Heap.set_same, Heap.set_set, Heap.kill_kset, Int.toNat_natCast, Int.natCast_nonneg, Int.ofNat_lt, Int.ofNat_le, Int.natCast_inj, pmC, pmE, pmS, pmV, pmK, pmQ, pmL, pmX, pmF, pmO, pmA, pmR, pmW, pmB, Option.isSome_some, ft, olds_ints, olds_bools, ↓reduceIte, Nat.reduceEqDiff, reduceCtorEq, Nat.reduceAdd, Nat.reduceMul, Nat.reduceLeDiff, Nat.reduceLT, Int.reduceLE, Int.reduceLT, Int.reduceEq, Int.reduceToNat, Nat.zero_mul, Nat.zero_add, Nat.mul_one, ne_eq, not_false_eq_true, not_true_eq_false, true_and, and_true, decide_true, decide_false, Bool.not_true, Bool.not_false, Bool.false_eq_true, and_self, Nat.add_zero]
  refine Mark _ _ ?_
  try simp only [t3b, s2, or_false, false_or, Bool.and_self, Bool.and_true, Bool.true_and, Bool.and_false, Bool.false_and, Bool.not_not, Int.cast_ofNat_Int, beq_self_eq_true, Heap.set_same, Heap.set_set, Heap.kill_kset, Int.toNat_natCast, Int.natCast_nonneg, Int.ofNat_lt, Int.ofNat_le, Int.natCast_inj, pmC, pmE, pmS, pmV, pmK, pmQ, pmL, pmX, pmF, pmO, pmA, pmR, pmW, pmB, Option.isSome_some, ft, olds_ints, olds_bools, ↓reduceIte, Nat.reduceEqDiff, reduceCtorEq, Nat.reduceAdd, Nat.reduceMul, Nat.reduceLeDiff, Nat.reduceLT, Int.reduceLE, Int.reduceLT, Int.reduceEq, Int.reduceToNat, Nat.zero_mul, Nat.zero_add, Nat.mul_one, ne_eq, not_false_eq_true, not_true_eq_false, true_and, and_true, decide_true, decide_false, Bool.not_true, Bool.not_false, Bool.false_eq_true, and_self, Nat.add_zero]
  refine Unpile _ _ ?_
  try simp only [t2, ek, or_false, false_or, Bool.and_self, Bool.and_true, Bool.true_and, Bool.and_false, Bool.false_and, Bool.not_not, Int.cast_ofNat_Int, beq_self_eq_true, Heap.set_same, Heap.set_set, Heap.kill_kset, Int.toNat_natCast, Int.natCast_nonneg, Int.ofNat_lt, Int.ofNat_le, Int.natCast_inj, pmC, pmE, pmS, pmV, pmK, pmQ, pmL, pmX, pmF, pmO, pmA, pmR, pmW, pmB, Option.isSome_some, ft, olds_ints, olds_bools, ↓reduceIte, Nat.reduceEqDiff, reduceCtorEq, Nat.reduceAdd, Nat.reduceMul, Nat.reduceLeDiff, Nat.reduceLT, Int.reduceLE, Int.reduceLT, Int.reduceEq, Int.reduceToNat, Nat.zero_mul, Nat.zero_add, Nat.mul_one, ne_eq, not_false_eq_true, not_true_eq_false, true_and, and_true, decide_true, decide_false, Bool.not_true, Bool.not_false, Bool.false_eq_true, and_self, Nat.add_zero]
  have hl : (kin c).length = 4 := rfl
  clear ek
  generalize kin c = l at *
  refine pwp_up 4 (fun i σ h' => h' = h ∧ σ 17 = .int .i64 ((l.take i).count true : Nat) ∧ σ 113 = .list true 1 4 (l.map .bool) ∧ σ 114 = .int .i64 4 ∧ σ 115 = .int .i64 i) ?_ ?_
  · exact ⟨rfl, rfl, rfl, rfl, rfl⟩
  · rintro i σ h' K' hi ⟨rfl, s17, s113, s114, s115⟩ next
    try simp only [s114, s115, cdK_dec, or_false, false_or, Bool.and_self, Bool.and_true, Bool.true_and, Bool.and_false, Bool.false_and, Bool.not_not, Int.cast_ofNat_Int, beq_self_eq_true, Heap.set_same, Heap.set_set, Heap.kill_kset, Int.toNat_natCast, Int.natCast_nonneg, Int.ofNat_lt, Int.ofNat_le, Int.natCast_inj, pmC, pmE, pmS, pmV, pmK, pmQ, pmL, pmX, pmF, pmO, pmA, pmR, pmW, pmB, Option.isSome_some, ft, olds_ints, olds_bools, ↓reduceIte, Nat.reduceEqDiff, reduceCtorEq, Nat.reduceAdd, Nat.reduceMul, Nat.reduceLeDiff, Nat.reduceLT, Int.reduceLE, Int.reduceLT, Int.reduceEq, Int.reduceToNat, Nat.zero_mul, Nat.zero_add, Nat.mul_one, ne_eq, not_false_eq_true, not_true_eq_false, true_and, and_true, decide_true, decide_false, Bool.not_true, Bool.not_false, Bool.false_eq_true, and_self, Nat.add_zero]
    refine ⟨fun hlt => ?_, fun hge => ?_⟩
    · have hi4 : i < 4 := by omega
      have hi5 : (i : Int) < 4 := by omega
      have hil : i < l.length := by omega
      have hx := getm PV.bool l hil
      have hc := count_take l hil
      have hcl : (l.take i).count true ≤ 4 := Nat.le_trans List.count_le_length (by simp; omega)
      have hw : IntKind.i64.wrap ((i : Int) + 1) = (i : Int) + 1 := wrap_in (by omega) (by omega)
      have hw2 : IntKind.i64.wrap (((l.take i).count true : Nat) + 1 : Int) = ((l.take i).count true : Nat) + 1 := wrap_in (by omega) (by omega)
      try simp only [s113, s115, hx, hi4, hi5, Nat.mul_one, or_false, false_or, Bool.and_self, Bool.and_true, Bool.true_and, Bool.and_false, Bool.false_and, Bool.not_not, Int.cast_ofNat_Int, beq_self_eq_true, Heap.set_same, Heap.set_set, Heap.kill_kset, Int.toNat_natCast, Int.natCast_nonneg, Int.ofNat_lt, Int.ofNat_le, Int.natCast_inj, pmC, pmE, pmS, pmV, pmK, pmQ, pmL, pmX, pmF, pmO, pmA, pmR, pmW, pmB, Option.isSome_some, ft, olds_ints, olds_bools, ↓reduceIte, Nat.reduceEqDiff, reduceCtorEq, Nat.reduceAdd, Nat.reduceMul, Nat.reduceLeDiff, Nat.reduceLT, Int.reduceLE, Int.reduceLT, Int.reduceEq, Int.reduceToNat, Nat.zero_mul, Nat.zero_add, Nat.mul_one, ne_eq, not_false_eq_true, not_true_eq_false, true_and, and_true, decide_true, decide_false, Bool.not_true, Bool.not_false, Bool.false_eq_true, and_self, Nat.add_zero]
      cases hb : l.getD i default
      · rw [hb, if_neg (by simp)] at hc
        try simp only [s115, hw, or_false, false_or, Bool.and_self, Bool.and_true, Bool.true_and, Bool.and_false, Bool.false_and, Bool.not_not, Int.cast_ofNat_Int, beq_self_eq_true, Heap.set_same, Heap.set_set, Heap.kill_kset, Int.toNat_natCast, Int.natCast_nonneg, Int.ofNat_lt, Int.ofNat_le, Int.natCast_inj, pmC, pmE, pmS, pmV, pmK, pmQ, pmL, pmX, pmF, pmO, pmA, pmR, pmW, pmB, Option.isSome_some, ft, olds_ints, olds_bools, ↓reduceIte, Nat.reduceEqDiff, reduceCtorEq, Nat.reduceAdd, Nat.reduceMul, Nat.reduceLeDiff, Nat.reduceLT, Int.reduceLE, Int.reduceLT, Int.reduceEq, Int.reduceToNat, Nat.zero_mul, Nat.zero_add, Nat.mul_one, ne_eq, not_false_eq_true, not_true_eq_false, true_and, and_true, decide_true, decide_false, Bool.not_true, Bool.not_false, Bool.false_eq_true, and_self, Nat.add_zero]
        exact next hi4 _ _ ⟨rfl, by simp [put, s17, hc], by simp [put, s113], by simp [put, s114], by simp [put]⟩
      · rw [hb, if_pos rfl] at hc
        try simp only [s17, s115, hw, hw2, or_false, false_or, Bool.and_self, Bool.and_true, Bool.true_and, Bool.and_false, Bool.false_and, Bool.not_not, Int.cast_ofNat_Int, beq_self_eq_true, Heap.set_same, Heap.set_set, Heap.kill_kset, Int.toNat_natCast, Int.natCast_nonneg, Int.ofNat_lt, Int.ofNat_le, Int.natCast_inj, pmC, pmE, pmS, pmV, pmK, pmQ, pmL, pmX, pmF, pmO, pmA, pmR, pmW, pmB, Option.isSome_some, ft, olds_ints, olds_bools, ↓reduceIte, Nat.reduceEqDiff, reduceCtorEq, Nat.reduceAdd, Nat.reduceMul, Nat.reduceLeDiff, Nat.reduceLT, Int.reduceLE, Int.reduceLT, Int.reduceEq, Int.reduceToNat, Nat.zero_mul, Nat.zero_add, Nat.mul_one, ne_eq, not_false_eq_true, not_true_eq_false, true_and, and_true, decide_true, decide_false, Bool.not_true, Bool.not_false, Bool.false_eq_true, and_self, Nat.add_zero]
        exact next hi4 _ _ ⟨rfl, by simp [put, hc], by simp [put, s113], by simp [put, s114], by simp [put]⟩
    · have hi4 : i = 4 := by omega
      subst hi4
      rw [List.take_of_length_le (by omega)] at s17
      have hle : ((l.count true : Nat) : Int) ≤ 1 := by omega
      try simp only [s17, hle, or_false, false_or, Bool.and_self, Bool.and_true, Bool.true_and, Bool.and_false, Bool.false_and, Bool.not_not, Int.cast_ofNat_Int, beq_self_eq_true, Heap.set_same, Heap.set_set, Heap.kill_kset, Int.toNat_natCast, Int.natCast_nonneg, Int.ofNat_lt, Int.ofNat_le, Int.natCast_inj, pmC, pmE, pmS, pmV, pmK, pmQ, pmL, pmX, pmF, pmO, pmA, pmR, pmW, pmB, Option.isSome_some, ft, olds_ints, olds_bools, ↓reduceIte, Nat.reduceEqDiff, reduceCtorEq, Nat.reduceAdd, Nat.reduceMul, Nat.reduceLeDiff, Nat.reduceLT, Int.reduceLE, Int.reduceLT, Int.reduceEq, Int.reduceToNat, Nat.zero_mul, Nat.zero_add, Nat.mul_one, ne_eq, not_false_eq_true, not_true_eq_false, true_and, and_true, decide_true, decide_false, Bool.not_true, Bool.not_false, Bool.false_eq_true, and_self, Nat.add_zero]
      refine awake _ ?_
      try simp only [or_false, false_or, Bool.and_self, Bool.and_true, Bool.true_and, Bool.and_false, Bool.false_and, Bool.not_not, Int.cast_ofNat_Int, beq_self_eq_true, Heap.set_same, Heap.set_set, Heap.kill_kset, Int.toNat_natCast, Int.natCast_nonneg, Int.ofNat_lt, Int.ofNat_le, Int.natCast_inj, pmC, pmE, pmS, pmV, pmK, pmQ, pmL, pmX, pmF, pmO, pmA, pmR, pmW, pmB, Option.isSome_some, ft, olds_ints, olds_bools, ↓reduceIte, Nat.reduceEqDiff, reduceCtorEq, Nat.reduceAdd, Nat.reduceMul, Nat.reduceLeDiff, Nat.reduceLT, Int.reduceLE, Int.reduceLT, Int.reduceEq, Int.reduceToNat, Nat.zero_mul, Nat.zero_add, Nat.mul_one, ne_eq, not_false_eq_true, not_true_eq_false, true_and, and_true, decide_true, decide_false, Bool.not_true, Bool.not_false, Bool.false_eq_true, and_self, Nat.add_zero]
      exact finK_le (Heap.le_refl _) k
theorem midB (b f c : Int) (σ : Sl) (h : Heap) {K : PV → Heap → Prop} (k : K (.bool true) h) (s0 : σ 0 = .int .i64 b) (s1 : σ 1 = .int .i64 f) (s2 : σ 2 = .int .i64 c) : pwp Try.prog [] (.seq (.seq (.reg false r6_6) (.seq (.reg false r6_7) (.cond (.tmp 67) (.seq (.reg false r6_8) (.seq (.reg false r6_9) (.cond (.tmp 85) (.seq (.reg false r6_10) .ret) .skip))) .skip))) restB) (fin Try.prog [.tmp 6] h K) σ h := by
  try simp only [r6_0, r6_1, r6_2, r6_3, r6_4, r6_5, r6_6, r6_7, r6_8, r6_9, r6_10, s0, s1, or_false, false_or, Bool.and_self, Bool.and_true, Bool.true_and, Bool.and_false, Bool.false_and, Bool.not_not, Int.cast_ofNat_Int, beq_self_eq_true, Heap.set_same, Heap.set_set, Heap.kill_kset, Int.toNat_natCast, Int.natCast_nonneg, Int.ofNat_lt, Int.ofNat_le, Int.natCast_inj, pmC, pmE, pmS, pmV, pmK, pmQ, pmL, pmX, pmF, pmO, pmA, pmR, pmW, pmB, Option.isSome_some, ft, olds_ints, olds_bools, ↓reduceIte, Nat.reduceEqDiff, reduceCtorEq, Nat.reduceAdd, Nat.reduceMul, Nat.reduceLeDiff, Nat.reduceLT, Int.reduceLE, Int.reduceLT, Int.reduceEq, Int.reduceToNat, Nat.zero_mul, Nat.zero_add, Nat.mul_one, ne_eq, not_false_eq_true, not_true_eq_false, true_and, and_true, decide_true, decide_false, Bool.not_true, Bool.not_false, Bool.false_eq_true, and_self, Nat.add_zero]
  refine Ligate _ _ _ ?_
  cases h1 : (ligP b f).2
  · try simp only [or_false, false_or, Bool.and_self, Bool.and_true, Bool.true_and, Bool.and_false, Bool.false_and, Bool.not_not, Int.cast_ofNat_Int, beq_self_eq_true, Heap.set_same, Heap.set_set, Heap.kill_kset, Int.toNat_natCast, Int.natCast_nonneg, Int.ofNat_lt, Int.ofNat_le, Int.natCast_inj, pmC, pmE, pmS, pmV, pmK, pmQ, pmL, pmX, pmF, pmO, pmA, pmR, pmW, pmB, Option.isSome_some, ft, olds_ints, olds_bools, ↓reduceIte, Nat.reduceEqDiff, reduceCtorEq, Nat.reduceAdd, Nat.reduceMul, Nat.reduceLeDiff, Nat.reduceLT, Int.reduceLE, Int.reduceLT, Int.reduceEq, Int.reduceToNat, Nat.zero_mul, Nat.zero_add, Nat.mul_one, ne_eq, not_false_eq_true, not_true_eq_false, true_and, and_true, decide_true, decide_false, Bool.not_true, Bool.not_false, Bool.false_eq_true, and_self, Nat.add_zero]
    exact lastB c _ h k (by simp [put, s2])
  · have e := lig_back (b := b) (f := f) (a := (ligP b f).1) (by rw [← h1])
    try simp only [or_false, false_or, Bool.and_self, Bool.and_true, Bool.true_and, Bool.and_false, Bool.false_and, Bool.not_not, Int.cast_ofNat_Int, beq_self_eq_true, Heap.set_same, Heap.set_set, Heap.kill_kset, Int.toNat_natCast, Int.natCast_nonneg, Int.ofNat_lt, Int.ofNat_le, Int.natCast_inj, pmC, pmE, pmS, pmV, pmK, pmQ, pmL, pmX, pmF, pmO, pmA, pmR, pmW, pmB, Option.isSome_some, ft, olds_ints, olds_bools, ↓reduceIte, Nat.reduceEqDiff, reduceCtorEq, Nat.reduceAdd, Nat.reduceMul, Nat.reduceLeDiff, Nat.reduceLT, Int.reduceLE, Int.reduceLT, Int.reduceEq, Int.reduceToNat, Nat.zero_mul, Nat.zero_add, Nat.mul_one, ne_eq, not_false_eq_true, not_true_eq_false, true_and, and_true, decide_true, decide_false, Bool.not_true, Bool.not_false, Bool.false_eq_true, and_self, Nat.add_zero]
    refine Parted _ _ ?_
    rw [e]
    try simp only [t3, s0, s1, or_false, false_or, Bool.and_self, Bool.and_true, Bool.true_and, Bool.and_false, Bool.false_and, Bool.not_not, Int.cast_ofNat_Int, beq_self_eq_true, Heap.set_same, Heap.set_set, Heap.kill_kset, Int.toNat_natCast, Int.natCast_nonneg, Int.ofNat_lt, Int.ofNat_le, Int.natCast_inj, pmC, pmE, pmS, pmV, pmK, pmQ, pmL, pmX, pmF, pmO, pmA, pmR, pmW, pmB, Option.isSome_some, ft, olds_ints, olds_bools, ↓reduceIte, Nat.reduceEqDiff, reduceCtorEq, Nat.reduceAdd, Nat.reduceMul, Nat.reduceLeDiff, Nat.reduceLT, Int.reduceLE, Int.reduceLT, Int.reduceEq, Int.reduceToNat, Nat.zero_mul, Nat.zero_add, Nat.mul_one, ne_eq, not_false_eq_true, not_true_eq_false, true_and, and_true, decide_true, decide_false, Bool.not_true, Bool.not_false, Bool.false_eq_true, and_self, Nat.add_zero]
    exact lastB c _ h k (by simp [put, s2])
theorem law_FormsBack (b f c : Int) (hb : b ≤ 9223372036854775807) (h : Heap) {K : PV → Heap → Prop} (k : K (.bool true) h) : CanP Try.prog 6 [.int .i64 b, .int .i64 f, .int .i64 c] h K := by
  refine e6 rfl ?_
  have mid : ∀ σ : Sl, σ 0 = .int .i64 b → σ 1 = .int .i64 f → σ 2 = .int .i64 c → pwp Try.prog [] (.seq (.seq (.reg false r6_6) (.seq (.reg false r6_7) (.cond (.tmp 67) (.seq (.reg false r6_8) (.seq (.reg false r6_9) (.cond (.tmp 85) (.seq (.reg false r6_10) .ret) .skip))) .skip))) restB) (fin Try.prog [.tmp 6] h K) σ h := fun σ s0 s1 s2 => midB b f c σ h k s0 s1 s2
  rw [codeB]
  generalize hT : PC.seq (.seq (.reg false r6_6) (.seq (.reg false r6_7) (.cond (.tmp 67) (.seq (.reg false r6_8) (.seq (.reg false r6_9) (.cond (.tmp 85) (.seq (.reg false r6_10) .ret) .skip))) .skip))) restB = T at *
  try simp only [r6_0, r6_1, r6_2, r6_3, r6_4, r6_5, r6_6, r6_7, r6_8, r6_9, r6_10, or_false, false_or, Bool.and_self, Bool.and_true, Bool.true_and, Bool.and_false, Bool.false_and, Bool.not_not, Int.cast_ofNat_Int, beq_self_eq_true, Heap.set_same, Heap.set_set, Heap.kill_kset, Int.toNat_natCast, Int.natCast_nonneg, Int.ofNat_lt, Int.ofNat_le, Int.natCast_inj, pmC, pmE, pmS, pmV, pmK, pmQ, pmL, pmX, pmF, pmO, pmA, pmR, pmW, pmB, Option.isSome_some, ft, olds_ints, olds_bools, ↓reduceIte, Nat.reduceEqDiff, reduceCtorEq, Nat.reduceAdd, Nat.reduceMul, Nat.reduceLeDiff, Nat.reduceLT, Int.reduceLE, Int.reduceLT, Int.reduceEq, Int.reduceToNat, Nat.zero_mul, Nat.zero_add, Nat.mul_one, ne_eq, not_false_eq_true, not_true_eq_false, true_and, and_true, decide_true, decide_false, Bool.not_true, Bool.not_false, Bool.false_eq_true, and_self, Nat.add_zero]
  refine Form _ _ hb _ ?_
  cases h1 : (formF lets b f).2
  · try simp only [formP, h1, or_false, false_or, Bool.and_self, Bool.and_true, Bool.true_and, Bool.and_false, Bool.false_and, Bool.not_not, Int.cast_ofNat_Int, beq_self_eq_true, Heap.set_same, Heap.set_set, Heap.kill_kset, Int.toNat_natCast, Int.natCast_nonneg, Int.ofNat_lt, Int.ofNat_le, Int.natCast_inj, pmC, pmE, pmS, pmV, pmK, pmQ, pmL, pmX, pmF, pmO, pmA, pmR, pmW, pmB, Option.isSome_some, ft, olds_ints, olds_bools, ↓reduceIte, Nat.reduceEqDiff, reduceCtorEq, Nat.reduceAdd, Nat.reduceMul, Nat.reduceLeDiff, Nat.reduceLT, Int.reduceLE, Int.reduceLT, Int.reduceEq, Int.reduceToNat, Nat.zero_mul, Nat.zero_add, Nat.mul_one, ne_eq, not_false_eq_true, not_true_eq_false, true_and, and_true, decide_true, decide_false, Bool.not_true, Bool.not_false, Bool.false_eq_true, and_self, Nat.add_zero]
    exact mid _ rfl rfl rfl
  · have e := form_back (b := b) (f := f) (a := (formF lets b f).1) (by rw [← h1])
    have e2 := form_pres (b := b) (f := f) (a := (formF lets b f).1) (by rw [← h1])
    try simp only [formP, h1, or_false, false_or, Bool.and_self, Bool.and_true, Bool.true_and, Bool.and_false, Bool.false_and, Bool.not_not, Int.cast_ofNat_Int, beq_self_eq_true, Heap.set_same, Heap.set_set, Heap.kill_kset, Int.toNat_natCast, Int.natCast_nonneg, Int.ofNat_lt, Int.ofNat_le, Int.natCast_inj, pmC, pmE, pmS, pmV, pmK, pmQ, pmL, pmX, pmF, pmO, pmA, pmR, pmW, pmB, Option.isSome_some, ft, olds_ints, olds_bools, ↓reduceIte, Nat.reduceEqDiff, reduceCtorEq, Nat.reduceAdd, Nat.reduceMul, Nat.reduceLeDiff, Nat.reduceLT, Int.reduceLE, Int.reduceLT, Int.reduceEq, Int.reduceToNat, Nat.zero_mul, Nat.zero_add, Nat.mul_one, ne_eq, not_false_eq_true, not_true_eq_false, true_and, and_true, decide_true, decide_false, Bool.not_true, Bool.not_false, Bool.false_eq_true, and_self, Nat.add_zero]
    refine Base _ _ ?_
    try simp only [baseP, e, or_false, false_or, Bool.and_self, Bool.and_true, Bool.true_and, Bool.and_false, Bool.false_and, Bool.not_not, Int.cast_ofNat_Int, beq_self_eq_true, Heap.set_same, Heap.set_set, Heap.kill_kset, Int.toNat_natCast, Int.natCast_nonneg, Int.ofNat_lt, Int.ofNat_le, Int.natCast_inj, pmC, pmE, pmS, pmV, pmK, pmQ, pmL, pmX, pmF, pmO, pmA, pmR, pmW, pmB, Option.isSome_some, ft, olds_ints, olds_bools, ↓reduceIte, Nat.reduceEqDiff, reduceCtorEq, Nat.reduceAdd, Nat.reduceMul, Nat.reduceLeDiff, Nat.reduceLT, Int.reduceLE, Int.reduceLT, Int.reduceEq, Int.reduceToNat, Nat.zero_mul, Nat.zero_add, Nat.mul_one, ne_eq, not_false_eq_true, not_true_eq_false, true_and, and_true, decide_true, decide_false, Bool.not_true, Bool.not_false, Bool.false_eq_true, and_self, Nat.add_zero]
    refine Presented _ _ ?_
    rw [e2]
    try simp only [or_false, false_or, Bool.and_self, Bool.and_true, Bool.true_and, Bool.and_false, Bool.false_and, Bool.not_not, Int.cast_ofNat_Int, beq_self_eq_true, Heap.set_same, Heap.set_set, Heap.kill_kset, Int.toNat_natCast, Int.natCast_nonneg, Int.ofNat_lt, Int.ofNat_le, Int.natCast_inj, pmC, pmE, pmS, pmV, pmK, pmQ, pmL, pmX, pmF, pmO, pmA, pmR, pmW, pmB, Option.isSome_some, ft, olds_ints, olds_bools, ↓reduceIte, Nat.reduceEqDiff, reduceCtorEq, Nat.reduceAdd, Nat.reduceMul, Nat.reduceLeDiff, Nat.reduceLT, Int.reduceLE, Int.reduceLT, Int.reduceEq, Int.reduceToNat, Nat.zero_mul, Nat.zero_add, Nat.mul_one, ne_eq, not_false_eq_true, not_true_eq_false, true_and, and_true, decide_true, decide_false, Bool.not_true, Bool.not_false, Bool.false_eq_true, and_self, Nat.add_zero]
    exact mid _ rfl rfl rfl
def kinds_FormsBack : List AKind := [.one (some .i64), .one (some .i64), .one (some .i64)]
theorem all_FormsBack (pvs : List PV) (h : IsArgs kinds_FormsBack pvs) : CanP Try.prog 6 pvs Heap.nil (fun v _ => v = .bool true) := by
  obtain ⟨q, r, rfl, ⟨a, rfl, hw⟩, q, r, rfl, ⟨b, rfl, hw2⟩, q, r, rfl, ⟨c, rfl, hw3⟩, rfl⟩ := h
  exact law_FormsBack a b c (wf64 hw).2 _ rfl
end Go.Proofs.Ytlmfdoilbfgleaa
