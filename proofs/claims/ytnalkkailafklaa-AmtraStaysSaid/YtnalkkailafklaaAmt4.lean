/-
  Marks as they are drawn: a row as it is drawn, and what stands in each place, walked.
  Conditions: none but those that each sentence tells.
-/
import Derived.Test.YtnalkkailafklaaAmt3
import Derived.Test.YtnalkkailafklaaIntsCat
import Derived.Test.YtnalkkailafklaaSeg1
namespace Go.Proofs.Ytnalkkailafklaa
open Go.Pm
set_option maxRecDepth 100000
set_option linter.unusedSimpArgs false
set_option linter.unusedVariables false

/-- A row as it is drawn. -/
def drawnP (f : Int → Int) (X : List Int) (l : List Int) : List Int :=
  (takeF (isC f X 33) (fun _ => false) false l).1 ++ (movs f X [230, 220] (takeF (isC f X 33) (fun _ => false) false l).2).1 ++ (movs f X [230, 220] (takeF (isC f X 33) (fun _ => false) false l).2).2
theorem movs_len (f : Int → Int) (X : List Int) : ∀ (C l : List Int), (movs f X C l).1.length + (movs f X C l).2.length = l.length
  | [], l => by simp [movs]
  | c :: cs, l => by
    have h1 := movs_len f X cs (takeF (isC f X c) (stC f X c) false l).2
    have h2 := takeF_len (isC f X c) (stC f X c) l false
    simp only [movs, List.length_append]
    omega
theorem drawnP_len (f : Int → Int) (X l : List Int) : (drawnP f X l).length = l.length := by
  have h1 := movs_len f X [230, 220] (takeF (isC f X 33) (fun _ => false) false l).2
  have h2 := takeF_len (isC f X 33) (fun _ => false) l false
  simp only [drawnP, List.length_append]
  omega
theorem drawnC (v : PV) (f : Int → Int) (hv : CO v f) (fr : Bool) (X : List Int) (rb : Nat) (u : PV) (l : List Int) (hl : l.length ≤ 1000000) (okl : ∀ x ∈ l, okP X x) (h : Heap)
    (hr : h.f rb = some [v, .list fr 1 X.length (X.map (.int .i64)), u]) (hu : Lv h rb u l)
    {K : PV → Heap → Prop} (k : ∀ w h', (∀ x cs, x ≠ rb → h.f x = some cs → h'.f x = some cs) → h'.f rb = some [v, .list fr 1 X.length (X.map (.int .i64)), w] →
      K (.list true 1 l.length ((drawnP f X l).map (.int .i64))) h') :
    CanP Try.prog 26 [.ptr rb 0] h K := by
  refine e26 rfl ?_
  try simp only [c26, r26_0, r26_1, r26_2, r26_3, or_false, false_or, Bool.and_self, Bool.and_true, Bool.true_and, Bool.and_false, Bool.false_and, Bool.not_not, Int.cast_ofNat_Int, beq_self_eq_true, Heap.set_same, Heap.set_set, Heap.kill_kset, Int.toNat_natCast, Int.natCast_nonneg, Int.ofNat_lt, Int.ofNat_le, Int.natCast_inj, pmC, pmE, pmS, pmV, pmK, pmQ, pmL, pmX, pmF, pmO, pmA, pmR, pmW, pmB, Option.isSome_some, ft, olds_ints, olds_bools, ↓reduceIte, Nat.reduceEqDiff, reduceCtorEq, Nat.reduceAdd, Nat.reduceMul, Nat.reduceLeDiff, Nat.reduceLT, Int.reduceLE, Int.reduceLT, Int.reduceEq, Int.reduceToNat, Nat.zero_mul, Nat.zero_add, Nat.mul_one, ne_eq, not_false_eq_true, not_true_eq_false, true_and, and_true, decide_true, decide_false, Bool.not_true, Bool.not_false, Bool.false_eq_true, and_self, Nat.add_zero]
  refine shaddasC v f hv fr X rb u l hl okl _ hr hu fun w h1 kp1 hr1 hw1 => ?_
  have hdl := drawnP_len f X l
  have hm1 := takeF_mem (isC f X 33) (fun _ => false) l false
  have hl1 := takeF_len (isC f X 33) (fun _ => false) l false
  unfold drawnP at hdl k
  generalize takeF (isC f X 33) (fun _ => false) false l = s at *
  try simp only [or_false, false_or, Bool.and_self, Bool.and_true, Bool.true_and, Bool.and_false, Bool.false_and, Bool.not_not, Int.cast_ofNat_Int, beq_self_eq_true, Heap.set_same, Heap.set_set, Heap.kill_kset, Int.toNat_natCast, Int.natCast_nonneg, Int.ofNat_lt, Int.ofNat_le, Int.natCast_inj, pmC, pmE, pmS, pmV, pmK, pmQ, pmL, pmX, pmF, pmO, pmA, pmR, pmW, pmB, Option.isSome_some, ft, olds_ints, olds_bools, ↓reduceIte, Nat.reduceEqDiff, reduceCtorEq, Nat.reduceAdd, Nat.reduceMul, Nat.reduceLeDiff, Nat.reduceLT, Int.reduceLE, Int.reduceLT, Int.reduceEq, Int.reduceToNat, Nat.zero_mul, Nat.zero_add, Nat.mul_one, ne_eq, not_false_eq_true, not_true_eq_false, true_and, and_true, decide_true, decide_false, Bool.not_true, Bool.not_false, Bool.false_eq_true, and_self, Nat.add_zero]
  refine movablesC v f hv fr _ X rb w [230, 220] (by decide) s.2 (by omega) (fun x hx => okl x (hm1.2 x hx)) _ hr1 hw1 fun w2 h2 kp2 hr2 hw2 => ?_
  have hml := movs_len f X [230, 220] s.2
  generalize movs f X [230, 220] s.2 = m at *
  have hwo : w2.old = w2 := by rcases hw2 with ⟨rfl, _⟩ | ⟨b, rfl, _⟩ <;> rfl
  have hfl : Pm.flat w2 = some [w2] := by rcases hw2 with ⟨rfl, _⟩ | ⟨b, rfl, _⟩ <;> rfl
  try simp only [hr2, hwo, hfl, or_false, false_or, Bool.and_self, Bool.and_true, Bool.true_and, Bool.and_false, Bool.false_and, Bool.not_not, Int.cast_ofNat_Int, beq_self_eq_true, Heap.set_same, Heap.set_set, Heap.kill_kset, Int.toNat_natCast, Int.natCast_nonneg, Int.ofNat_lt, Int.ofNat_le, Int.natCast_inj, pmC, pmE, pmS, pmV, pmK, pmQ, pmL, pmX, pmF, pmO, pmA, pmR, pmW, pmB, Option.isSome_some, ft, olds_ints, olds_bools, ↓reduceIte, Nat.reduceEqDiff, reduceCtorEq, Nat.reduceAdd, Nat.reduceMul, Nat.reduceLeDiff, Nat.reduceLT, Int.reduceLE, Int.reduceLT, Int.reduceEq, Int.reduceToNat, Nat.zero_mul, Nat.zero_add, Nat.mul_one, ne_eq, not_false_eq_true, not_true_eq_false, true_and, and_true, decide_true, decide_false, Bool.not_true, Bool.not_false, Bool.false_eq_true, and_self, Nat.add_zero]
  have e3 : ([s.1, m.1, m.2] : List (List Int)).flatten = s.1 ++ m.1 ++ m.2 := by simp
  refine ConcatI true [.list true 1 s.1.length (s.1.map (.int .i64)), .list true 1 m.1.length (m.1.map (.int .i64)), w2] [s.1, m.1, m.2] (by rw [e3, hdl]; omega) (by simp) _ ⟨.inr (.inl ⟨_, rfl⟩), .inr (.inl ⟨_, rfl⟩), ?_, trivial⟩ ?_
  · rcases hw2 with q | ⟨pb, q1, q2, q3⟩
    · exact .inl q
    · exact .inr (.inr ⟨pb, q1, q3⟩)
  rw [e3, hdl]
  try simp only [or_false, false_or, Bool.and_self, Bool.and_true, Bool.true_and, Bool.and_false, Bool.false_and, Bool.not_not, Int.cast_ofNat_Int, beq_self_eq_true, Heap.set_same, Heap.set_set, Heap.kill_kset, Int.toNat_natCast, Int.natCast_nonneg, Int.ofNat_lt, Int.ofNat_le, Int.natCast_inj, pmC, pmE, pmS, pmV, pmK, pmQ, pmL, pmX, pmF, pmO, pmA, pmR, pmW, pmB, Option.isSome_some, ft, olds_ints, olds_bools, ↓reduceIte, Nat.reduceEqDiff, reduceCtorEq, Nat.reduceAdd, Nat.reduceMul, Nat.reduceLeDiff, Nat.reduceLT, Int.reduceLE, Int.reduceLT, Int.reduceEq, Int.reduceToNat, Nat.zero_mul, Nat.zero_add, Nat.mul_one, ne_eq, not_false_eq_true, not_true_eq_false, true_and, and_true, decide_true, decide_false, Bool.not_true, Bool.not_false, Bool.false_eq_true, and_self, Nat.add_zero]
  exact finK_rf (k w2 h2 (fun x cs hn hx => kp2 x cs hn (kp1 x cs hn hx)) hr2)
theorem PlacesA (v : PV) (f : Int → Int) (hv : CO v f) (fr : Bool) (X : List Int) (hl : X.length ≤ 1000000) (h : Heap)
    {K : PV → Heap → Prop} (k : K (.list true 1 X.length ((seg (drawnP f X) (isC f X 0) [] (placeT f X)).map (.int .i64))) h) :
    CanP Try.prog 10 [v, .list fr 1 X.length (X.map (.int .i64))] h K := by
  refine e10 rfl ?_
  have hv' := hv.old
  have hv2 := hv.old2
  try simp only [c10, r10_0, r10_1, r10_2, r10_3, r10_4, r10_5, r10_6, r10_7, r10_8, r10_9, r10_10, r10_11, r10_12, hv'.flat, hv2, or_false, false_or, Bool.and_self, Bool.and_true, Bool.true_and, Bool.and_false, Bool.false_and, Bool.not_not, Int.cast_ofNat_Int, beq_self_eq_true, Heap.set_same, Heap.set_set, Heap.kill_kset, Int.toNat_natCast, Int.natCast_nonneg, Int.ofNat_lt, Int.ofNat_le, Int.natCast_inj, pmC, pmE, pmS, pmV, pmK, pmQ, pmL, pmX, pmF, pmO, pmA, pmR, pmW, pmB, Option.isSome_some, ft, olds_ints, olds_bools, ↓reduceIte, Nat.reduceEqDiff, reduceCtorEq, Nat.reduceAdd, Nat.reduceMul, Nat.reduceLeDiff, Nat.reduceLT, Int.reduceLE, Int.reduceLT, Int.reduceEq, Int.reduceToNat, Nat.zero_mul, Nat.zero_add, Nat.mul_one, ne_eq, not_false_eq_true, not_true_eq_false, true_and, and_true, decide_true, decide_false, Bool.not_true, Bool.not_false, Bool.false_eq_true, and_self, Nat.add_zero]
  intro rb hrb
  refine Places v.old f hv' false X hl _ ?_
  have hpl := placeT_len f X
  try simp only [or_false, false_or, Bool.and_self, Bool.and_true, Bool.true_and, Bool.and_false, Bool.false_and, Bool.not_not, Int.cast_ofNat_Int, beq_self_eq_true, Heap.set_same, Heap.set_set, Heap.kill_kset, Int.toNat_natCast, Int.natCast_nonneg, Int.ofNat_lt, Int.ofNat_le, Int.natCast_inj, pmC, pmE, pmS, pmV, pmK, pmQ, pmL, pmX, pmF, pmO, pmA, pmR, pmW, pmB, Option.isSome_some, ft, olds_ints, olds_bools, ↓reduceIte, Nat.reduceEqDiff, reduceCtorEq, Nat.reduceAdd, Nat.reduceMul, Nat.reduceLeDiff, Nat.reduceLT, Int.reduceLE, Int.reduceLT, Int.reduceEq, Int.reduceToNat, Nat.zero_mul, Nat.zero_add, Nat.mul_one, ne_eq, not_false_eq_true, not_true_eq_false, true_and, and_true, decide_true, decide_false, Bool.not_true, Bool.not_false, Bool.false_eq_true, and_self, Nat.add_zero]
  refine pwp_up X.length (fun i σ h' => ∃ (O P : List Int) (w : PV), Acc h h' (σ 5) 1 O.length (O.map (.int .i64)) ∧ Acc h h' w 1 P.length (P.map (.int .i64)) ∧ blkOf (σ 5) ≠ some rb ∧ blkOf w ≠ some rb ∧ (∀ b, blkOf (σ 5) = some b → blkOf w ≠ some b) ∧ h.le h' ∧
      h'.f rb = some [v.old, .list false 1 X.length (X.map (.int .i64)), w] ∧ O.length + P.length = i ∧ (∀ x ∈ P, okP X x) ∧ seg (drawnP f X) (isC f X 0) [] (placeT f X) = O ++ seg (drawnP f X) (isC f X 0) P ((placeT f X).drop i) ∧
      σ 6 = .ptr rb 0 ∧ σ 15 = .list true 1 X.length ((placeT f X).map (.int .i64)) ∧ σ 16 = .int .i64 X.length ∧ σ 17 = .int .i64 i) ?_ ?_
  · exact ⟨[], [], .nils, Acc.nil _ _ _, Acc.nil _ _ _, by simp [put, blkOf], by simp [blkOf], by simp [blkOf], Heap.le_set (Heap.le_refl _) hrb, Heap.set_same _ _ _, rfl, by simp, rfl, rfl, rfl, rfl, rfl⟩
  rintro i σ h' K' hi ⟨O, P, w, a, aw, ane, wne, dis, lh, hr, hOP, okP', hS, s6, s15, s16, s17⟩ next
  have hLv : Lv h' rb w P := by
    rcases aw with ⟨e, q, _⟩ | ⟨pb, e, _, q, _⟩
    · exact .inl ⟨e, List.eq_nil_of_length_eq_zero q⟩
    · exact .inr ⟨pb, e, fun e2 => wne (by rw [e, e2]; rfl), q⟩
  rcases Nat.lt_or_ge i X.length with hlt | hge
  · have hw : IntKind.i64.wrap ((i : Int) + 1) = (i : Int) + 1 := wrap_in (by omega) (by omega)
    have hx := getm (PV.int .i64) (placeT f X) (i := i) (by omega)
    have hp := placeT_at f X hlt
    rw [drop_getD (placeT f X) (by omega), seg] at hS
    generalize (placeT f X).getD i default = c at *
    try simp only [s6, s15, s16, s17, hlt, hx, or_false, false_or, Bool.and_self, Bool.and_true, Bool.true_and, Bool.and_false, Bool.false_and, Bool.not_not, Int.cast_ofNat_Int, beq_self_eq_true, Heap.set_same, Heap.set_set, Heap.kill_kset, Int.toNat_natCast, Int.natCast_nonneg, Int.ofNat_lt, Int.ofNat_le, Int.natCast_inj, pmC, pmE, pmS, pmV, pmK, pmQ, pmL, pmX, pmF, pmO, pmA, pmR, pmW, pmB, Option.isSome_some, ft, olds_ints, olds_bools, ↓reduceIte, Nat.reduceEqDiff, reduceCtorEq, Nat.reduceAdd, Nat.reduceMul, Nat.reduceLeDiff, Nat.reduceLT, Int.reduceLE, Int.reduceLT, Int.reduceEq, Int.reduceToNat, Nat.zero_mul, Nat.zero_add, Nat.mul_one, ne_eq, not_false_eq_true, not_true_eq_false, true_and, and_true, decide_true, decide_false, Bool.not_true, Bool.not_false, Bool.false_eq_true, and_self, Nat.add_zero]
    refine ofC v.old f hv' false X rb w c 0 hp.1 hp.2 _ hr ?_
    by_cases hz : isC f X 0 c = true
    · rw [if_pos hz] at hS
      unfold isC at hz
      try simp only [hz, s6, or_false, false_or, Bool.and_self, Bool.and_true, Bool.true_and, Bool.and_false, Bool.false_and, Bool.not_not, Int.cast_ofNat_Int, beq_self_eq_true, Heap.set_same, Heap.set_set, Heap.kill_kset, Int.toNat_natCast, Int.natCast_nonneg, Int.ofNat_lt, Int.ofNat_le, Int.natCast_inj, pmC, pmE, pmS, pmV, pmK, pmQ, pmL, pmX, pmF, pmO, pmA, pmR, pmW, pmB, Option.isSome_some, ft, olds_ints, olds_bools, ↓reduceIte, Nat.reduceEqDiff, reduceCtorEq, Nat.reduceAdd, Nat.reduceMul, Nat.reduceLeDiff, Nat.reduceLT, Int.reduceLE, Int.reduceLT, Int.reduceEq, Int.reduceToNat, Nat.zero_mul, Nat.zero_add, Nat.mul_one, ne_eq, not_false_eq_true, not_true_eq_false, true_and, and_true, decide_true, decide_false, Bool.not_true, Bool.not_false, Bool.false_eq_true, and_self, Nat.add_zero]
      refine drawnC v.old f hv' false X rb w P (by omega) okP' _ hr hLv fun w2 h2 kp2 hr2 => ?_
      have le2 : h.le h2 := fun x cs hx => kp2 _ _ (fun e => by rw [e, hrb] at hx; cases hx) (lh _ _ hx)
      have a2 := accKeep a ane kp2
      have hdl := drawnP_len f X P
      try simp only [or_false, false_or, Bool.and_self, Bool.and_true, Bool.true_and, Bool.and_false, Bool.false_and, Bool.not_not, Int.cast_ofNat_Int, beq_self_eq_true, Heap.set_same, Heap.set_set, Heap.kill_kset, Int.toNat_natCast, Int.natCast_nonneg, Int.ofNat_lt, Int.ofNat_le, Int.natCast_inj, pmC, pmE, pmS, pmV, pmK, pmQ, pmL, pmX, pmF, pmO, pmA, pmR, pmW, pmB, Option.isSome_some, ft, olds_ints, olds_bools, ↓reduceIte, Nat.reduceEqDiff, reduceCtorEq, Nat.reduceAdd, Nat.reduceMul, Nat.reduceLeDiff, Nat.reduceLT, Int.reduceLE, Int.reduceLT, Int.reduceEq, Int.reduceToNat, Nat.zero_mul, Nat.zero_add, Nat.mul_one, ne_eq, not_false_eq_true, not_true_eq_false, true_and, and_true, decide_true, decide_false, Bool.not_true, Bool.not_false, Bool.false_eq_true, and_self, Nat.add_zero]
      refine a2.appA le2 (by simp [hdl]) (by omega) (by simp only [maxLen]; omega) fun v3 h3 a3 l3 sd3 => ?_
      have r3 := sd3 _ _ hr2 ane
      try simp only [or_false, false_or, Bool.and_self, Bool.and_true, Bool.true_and, Bool.and_false, Bool.false_and, Bool.not_not, Int.cast_ofNat_Int, beq_self_eq_true, Heap.set_same, Heap.set_set, Heap.kill_kset, Int.toNat_natCast, Int.natCast_nonneg, Int.ofNat_lt, Int.ofNat_le, Int.natCast_inj, pmC, pmE, pmS, pmV, pmK, pmQ, pmL, pmX, pmF, pmO, pmA, pmR, pmW, pmB, Option.isSome_some, ft, olds_ints, olds_bools, ↓reduceIte, Nat.reduceEqDiff, reduceCtorEq, Nat.reduceAdd, Nat.reduceMul, Nat.reduceLeDiff, Nat.reduceLT, Int.reduceLE, Int.reduceLT, Int.reduceEq, Int.reduceToNat, Nat.zero_mul, Nat.zero_add, Nat.mul_one, ne_eq, not_false_eq_true, not_true_eq_false, true_and, and_true, decide_true, decide_false, Bool.not_true, Bool.not_false, Bool.false_eq_true, and_self, Nat.add_zero]
      refine a3.app l3 (by decide) rfl (by omega) (by simp only [maxLen]; omega) fun v4 h4 a4 l4 sd4 => ?_
      have r4 := sd4 _ _ r3.1 r3.2
      have hr4 := r4.1
      try simp only [s6, s17, hw, hr4, or_false, false_or, Bool.and_self, Bool.and_true, Bool.true_and, Bool.and_false, Bool.false_and, Bool.not_not, Int.cast_ofNat_Int, beq_self_eq_true, Heap.set_same, Heap.set_set, Heap.kill_kset, Int.toNat_natCast, Int.natCast_nonneg, Int.ofNat_lt, Int.ofNat_le, Int.natCast_inj, pmC, pmE, pmS, pmV, pmK, pmQ, pmL, pmX, pmF, pmO, pmA, pmR, pmW, pmB, Option.isSome_some, ft, olds_ints, olds_bools, ↓reduceIte, Nat.reduceEqDiff, reduceCtorEq, Nat.reduceAdd, Nat.reduceMul, Nat.reduceLeDiff, Nat.reduceLT, Int.reduceLE, Int.reduceLT, Int.reduceEq, Int.reduceToNat, Nat.zero_mul, Nat.zero_add, Nat.mul_one, ne_eq, not_false_eq_true, not_true_eq_false, true_and, and_true, decide_true, decide_false, Bool.not_true, Bool.not_false, Bool.false_eq_true, and_self, Nat.add_zero]
      refine next hlt _ _ ⟨O ++ drawnP f X P ++ [c], [], .nils, ?_, Acc.nil _ _ _, ?_, by simp [blkOf], (fun b _ e => by simp [blkOf] at e), Heap.le_set l4 hrb, Heap.set_same _ _ _, ?_, by simp, ?_, by simp [put, s6], by simp [put, s15], by simp [put, s16], by simp [put]⟩
      · have e1 : (O ++ drawnP f X P ++ [c]).length = O.length + P.length + 1 := by simp [hdl]; omega
        rw [e1, List.map_append, List.map_append]
        exact a4.set r4.2
      · exact r4.2
      · simp [hdl]; omega
      · rw [hS]; simp
    · rw [if_neg hz] at hS
      rw [Bool.not_eq_true] at hz
      unfold isC at hz
      have hwo : w.old = w := by rcases hLv with ⟨rfl, _⟩ | ⟨b, rfl, _⟩ <;> rfl
      try simp only [hz, s6, hr, hwo, or_false, false_or, Bool.and_self, Bool.and_true, Bool.true_and, Bool.and_false, Bool.false_and, Bool.not_not, Int.cast_ofNat_Int, beq_self_eq_true, Heap.set_same, Heap.set_set, Heap.kill_kset, Int.toNat_natCast, Int.natCast_nonneg, Int.ofNat_lt, Int.ofNat_le, Int.natCast_inj, pmC, pmE, pmS, pmV, pmK, pmQ, pmL, pmX, pmF, pmO, pmA, pmR, pmW, pmB, Option.isSome_some, ft, olds_ints, olds_bools, ↓reduceIte, Nat.reduceEqDiff, reduceCtorEq, Nat.reduceAdd, Nat.reduceMul, Nat.reduceLeDiff, Nat.reduceLT, Int.reduceLE, Int.reduceLT, Int.reduceEq, Int.reduceToNat, Nat.zero_mul, Nat.zero_add, Nat.mul_one, ne_eq, not_false_eq_true, not_true_eq_false, true_and, and_true, decide_true, decide_false, Bool.not_true, Bool.not_false, Bool.false_eq_true, and_self, Nat.add_zero]
      refine aw.app lh (by decide) rfl (by omega) (by simp only [maxLen]; omega) fun v3 h3 a3 l3 sd3 => ?_
      have r3 := sd3 _ _ hr wne
      have b3 := a.beside sd3 dis
      have hr3 := r3.1
      have hf3 : Pm.flat v3 = some [v3] := by rcases a3 with ⟨e, _⟩ | ⟨b, e, _⟩ <;> rw [e] <;> rfl
      try simp only [s6, s17, hw, hr3, hf3, or_false, false_or, Bool.and_self, Bool.and_true, Bool.true_and, Bool.and_false, Bool.false_and, Bool.not_not, Int.cast_ofNat_Int, beq_self_eq_true, Heap.set_same, Heap.set_set, Heap.kill_kset, Int.toNat_natCast, Int.natCast_nonneg, Int.ofNat_lt, Int.ofNat_le, Int.natCast_inj, pmC, pmE, pmS, pmV, pmK, pmQ, pmL, pmX, pmF, pmO, pmA, pmR, pmW, pmB, Option.isSome_some, ft, olds_ints, olds_bools, ↓reduceIte, Nat.reduceEqDiff, reduceCtorEq, Nat.reduceAdd, Nat.reduceMul, Nat.reduceLeDiff, Nat.reduceLT, Int.reduceLE, Int.reduceLT, Int.reduceEq, Int.reduceToNat, Nat.zero_mul, Nat.zero_add, Nat.mul_one, ne_eq, not_false_eq_true, not_true_eq_false, true_and, and_true, decide_true, decide_false, Bool.not_true, Bool.not_false, Bool.false_eq_true, and_self, Nat.add_zero]
      refine next hlt _ _ ⟨O, P ++ [c], v3, ?_, ?_, ane, r3.2, b3.2, Heap.le_set l3 hrb, Heap.set_same _ _ _, by simp; omega, ?_, hS, by simp [put, s6], by simp [put, s15], by simp [put, s16], by simp [put]⟩
      · exact b3.1.set ane
      · rw [List.length_append, List.map_append]
        exact a3.set r3.2
      · intro x hx
        rcases List.mem_append.1 hx with q | q
        · exact okP' x q
        · rw [List.mem_singleton.1 q]; exact ⟨hp.1, hp.2⟩
  · have e : i = X.length := by omega
    subst e
    have hnl := Nat.lt_irrefl X.length
    try simp only [s6, s16, s17, hnl, or_false, false_or, Bool.and_self, Bool.and_true, Bool.true_and, Bool.and_false, Bool.false_and, Bool.not_not, Int.cast_ofNat_Int, beq_self_eq_true, Heap.set_same, Heap.set_set, Heap.kill_kset, Int.toNat_natCast, Int.natCast_nonneg, Int.ofNat_lt, Int.ofNat_le, Int.natCast_inj, pmC, pmE, pmS, pmV, pmK, pmQ, pmL, pmX, pmF, pmO, pmA, pmR, pmW, pmB, Option.isSome_some, ft, olds_ints, olds_bools, ↓reduceIte, Nat.reduceEqDiff, reduceCtorEq, Nat.reduceAdd, Nat.reduceMul, Nat.reduceLeDiff, Nat.reduceLT, Int.reduceLE, Int.reduceLT, Int.reduceEq, Int.reduceToNat, Nat.zero_mul, Nat.zero_add, Nat.mul_one, ne_eq, not_false_eq_true, not_true_eq_false, true_and, and_true, decide_true, decide_false, Bool.not_true, Bool.not_false, Bool.false_eq_true, and_self, Nat.add_zero]
    refine drawnC v.old f hv' false X rb w P (by omega) okP' _ hr hLv fun w2 h2 kp2 hr2 => ?_
    have le2 : h.le h2 := fun x cs hx => kp2 _ _ (fun e => by rw [e, hrb] at hx; cases hx) (lh _ _ hx)
    have a2 := accKeep a ane kp2
    have hdl := drawnP_len f X P
    try simp only [or_false, false_or, Bool.and_self, Bool.and_true, Bool.true_and, Bool.and_false, Bool.false_and, Bool.not_not, Int.cast_ofNat_Int, beq_self_eq_true, Heap.set_same, Heap.set_set, Heap.kill_kset, Int.toNat_natCast, Int.natCast_nonneg, Int.ofNat_lt, Int.ofNat_le, Int.natCast_inj, pmC, pmE, pmS, pmV, pmK, pmQ, pmL, pmX, pmF, pmO, pmA, pmR, pmW, pmB, Option.isSome_some, ft, olds_ints, olds_bools, ↓reduceIte, Nat.reduceEqDiff, reduceCtorEq, Nat.reduceAdd, Nat.reduceMul, Nat.reduceLeDiff, Nat.reduceLT, Int.reduceLE, Int.reduceLT, Int.reduceEq, Int.reduceToNat, Nat.zero_mul, Nat.zero_add, Nat.mul_one, ne_eq, not_false_eq_true, not_true_eq_false, true_and, and_true, decide_true, decide_false, Bool.not_true, Bool.not_false, Bool.false_eq_true, and_self, Nat.add_zero]
    refine a2.appA le2 (by simp [hdl]) (by omega) (by simp only [maxLen]; omega) fun v3 h3 a3 l3 sd3 => ?_
    try simp only [or_false, false_or, Bool.and_self, Bool.and_true, Bool.true_and, Bool.and_false, Bool.false_and, Bool.not_not, Int.cast_ofNat_Int, beq_self_eq_true, Heap.set_same, Heap.set_set, Heap.kill_kset, Int.toNat_natCast, Int.natCast_nonneg, Int.ofNat_lt, Int.ofNat_le, Int.natCast_inj, pmC, pmE, pmS, pmV, pmK, pmQ, pmL, pmX, pmF, pmO, pmA, pmR, pmW, pmB, Option.isSome_some, ft, olds_ints, olds_bools, ↓reduceIte, Nat.reduceEqDiff, reduceCtorEq, Nat.reduceAdd, Nat.reduceMul, Nat.reduceLeDiff, Nat.reduceLT, Int.reduceLE, Int.reduceLT, Int.reduceEq, Int.reduceToNat, Nat.zero_mul, Nat.zero_add, Nat.mul_one, ne_eq, not_false_eq_true, not_true_eq_false, true_and, and_true, decide_true, decide_false, Bool.not_true, Bool.not_false, Bool.false_eq_true, and_self, Nat.add_zero]
    refine a3.fin l3 ?_
    have e1 : O ++ drawnP f X P = seg (drawnP f X) (isC f X 0) [] (placeT f X) := by rw [hS, List.drop_eq_nil_of_le (by omega)]; rfl
    have e2 : O.length + P.length = X.length := by omega
    rw [← List.map_append, olds_ints, e1, e2]
    exact k
end Go.Proofs.Ytnalkkailafklaa
