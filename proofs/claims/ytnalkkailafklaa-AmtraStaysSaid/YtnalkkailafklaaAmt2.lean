/-
  Marks as they are drawn: what is taken out of a row, walked.
  Conditions: none but those that each sentence tells.
-/
import Derived.Test.YtnalkkailafklaaAmt1
namespace Go.Proofs.Ytnalkkailafklaa
open Go.Pm
set_option maxRecDepth 100000
set_option linter.unusedSimpArgs false
set_option linter.unusedVariables false

/-- A row's places: nothing, or a live block of their own. -/
def Lv (h : Heap) (rb : Nat) (v : PV) (l : List Int) : Prop := (v = .nils ∧ l = []) ∨ ∃ pb, v = .buf pb 1 0 l.length ∧ pb ≠ rb ∧ h.f pb = some (l.map (.int .i64))
theorem wk2 {h h' : Heap} {v : PV} {E n : Nat} {cs : List PV} (a : Acc h h' v E n cs) : ∃ h2, Wk h h' v h2 (.list true E n (olds cs)) ∧ ∀ x ds, h'.f x = some ds → blkOf v ≠ some x → h2.f x = some ds := by
  rcases a with ⟨rfl, rfl, rfl⟩ | ⟨b, rfl, h1, h2, h3⟩
  · exact ⟨h', Wk.nil (Heap.le_refl _) true E, fun x ds e _ => e⟩
  · refine ⟨h'.kill b, ?_, fun x ds e n => ?_⟩
    · have := Wk.buf (E := E) (off := 0) (n := n) (fun x ds hx => by have hn : x ≠ b := (fun e => by rw [e, Heap.kill_same] at hx; cases hx); rw [Heap.kill_ne _ hn] at hx; exact hx) h1 h2 (Heap.kill_same h' b) (by omega)
      rw [List.drop_zero, List.take_of_length_le (by omega)] at this
      exact this
    · rw [Heap.kill_ne _ (fun e => n (by rw [e]; rfl))]; exact e
theorem accKeep {h0 h h2 : Heap} {u : PV} {E n rb : Nat} {cs : List PV} (a : Acc h0 h u E n cs) (hne : blkOf u ≠ some rb) (kp : ∀ x cs, x ≠ rb → h.f x = some cs → h2.f x = some cs) : Acc h0 h2 u E n cs := by
  rcases a with a | ⟨b, rfl, h1, h2, h3⟩
  · exact .inl a
  · exact .inr ⟨b, rfl, h1, kp _ _ (fun e => hne (by rw [e]; rfl)) h2, h3⟩
theorem accBase {h0 h h2 : Heap} {u : PV} {E n : Nat} {cs : List PV} (a : Acc h0 h2 u E n cs) (e : ∀ b, blkOf u = some b → h0.f b = none → h.f b = none) : Acc h h2 u E n cs := by
  rcases a with a | ⟨b, rfl, h1, h2, h3⟩
  · exact .inl a
  · exact .inr ⟨b, rfl, e _ rfl h1, h2, h3⟩
theorem takeC (g1 g2 : FuncId) (caps1 caps2 c1 c2 : List PV) (e1 : olds caps1 = c1) (e2 : olds caps2 = c2) (rb : Nat) (cv cx v : PV) (ok : Int → Prop) (t1 t2 : Int → Bool) (T1 : Tells g1 c1 rb cv cx ok t1) (T2 : Tells g2 c2 rb cv cx ok t2)
    (l : List Int) (hl : l.length ≤ 1000000) (okl : ∀ x ∈ l, ok x) (h : Heap) (hr : h.f rb = some [cv, cx, v])
    (hv : Lv h rb v l)
    {K : PV → Heap → Prop} (k : ∀ w h', (∀ x cs, x ≠ rb → h.f x = some cs → h'.f x = some cs) → (∀ b, blkOf w = some b → h.f b = none) → h'.f rb = some [cv, cx, w] → Lv h' rb w (takeF t1 t2 false l).2 → K (.list true 1 (takeF t1 t2 false l).1.length ((takeF t1 t2 false l).1.map (.int .i64))) h') :
    CanP Try.prog 59 [.ptr rb 0, .fn g1 [] caps1, .fn g2 [] caps2] h K := by
  refine e59 rfl ?_
  -- how it ends
  have fin9 : ∀ (T R : List Int) (vo vl : PV) (h' : Heap), takeF t1 t2 false l = (T, R) → Acc h h' vo 1 T.length (T.map (.int .i64)) → Acc h h' vl 1 R.length (R.map (.int .i64)) → (∀ b, blkOf vo = some b → blkOf vl ≠ some b) → h.le h' → finK vo h K (h'.set rb [cv, cx, vl]) := by
    intro T R vo vl h' e a b d lh
    have hne : ∀ (u : PV) (n : Nat) (cs : List PV), Acc h h' u 1 n cs → blkOf u ≠ some rb := by
      intro u n cs a
      rcases a with ⟨rfl, _⟩ | ⟨b, rfl, q, _⟩
      · simp [blkOf]
      · intro e; cases e; rw [hr] at q; cases q
    obtain ⟨h2, wk, kp⟩ := wk2 (a.set (hne _ _ _ a) (ds := [cv, cx, vl]))
    refine ⟨_, h2, wk, ?_⟩
    rw [olds_ints]
    have := k vl h2 (fun x cs hx q => kp x cs (by rw [Heap.set_ne _ _ hx]; exact lh _ _ q) (fun e => ?_)) (fun b9 e9 => ?_) (kp _ _ (Heap.set_same _ _ _) (hne _ _ _ a)) ?_
    · rw [e] at this; exact this
    · rcases a with ⟨rfl, _⟩ | ⟨b, rfl, q2, _⟩
      · simp [blkOf] at e
      · cases e; rw [q] at q2; cases q2
    · rcases b with ⟨rfl, _⟩ | ⟨b, rfl, q2, _⟩
      · simp [blkOf] at e9
      · cases e9; exact q2
    · rw [e]
      rcases b with ⟨rfl, q1, q2⟩ | ⟨b, rfl, q1, q2, q3⟩
      · exact .inl ⟨rfl, List.eq_nil_of_length_eq_zero q1⟩
      · have hb : b ≠ rb := fun e => by rw [e, hr] at q1; cases q1
        exact .inr ⟨b, rfl, hb, kp _ _ (by rw [Heap.set_ne _ _ hb]; exact q2) (fun e => d b e rfl)⟩
  rcases hv with ⟨rfl, rfl⟩ | ⟨pb, rfl, hne, hp⟩
  · try simp only [c59, r59_0, r59_1, r59_2, r59_3, r59_4, r59_5, r59_6, r59_7, r59_8, r59_9, r59_10, r59_11, r59_12, e1, e2, hr, or_false, false_or, Bool.and_self, Bool.and_true, Bool.true_and, Bool.and_false, Bool.false_and, Bool.not_not, Int.cast_ofNat_Int, beq_self_eq_true, Heap.set_same, Heap.set_set, Heap.kill_kset, Int.toNat_natCast, Int.natCast_nonneg, Int.ofNat_lt, Int.ofNat_le, Int.natCast_inj, pmC, pmE, pmS, pmV, pmK, pmQ, pmL, pmX, pmF, pmO, pmA, pmR, pmW, pmB, Option.isSome_some, ft, olds_ints, olds_bools, ↓reduceIte, Nat.reduceEqDiff, reduceCtorEq, Nat.reduceAdd, Nat.reduceMul, Nat.reduceLeDiff, Nat.reduceLT, Int.reduceLE, Int.reduceLT, Int.reduceEq, Int.reduceToNat, Nat.zero_mul, Nat.zero_add, Nat.mul_one, ne_eq, not_false_eq_true, not_true_eq_false, true_and, and_true, decide_true, decide_false, Bool.not_true, Bool.not_false, Bool.false_eq_true, and_self, Nat.add_zero]
    refine pwp_fall (fun m σ h9 => h9 = h ∧ σ 0 = .ptr rb 0 ∧ σ 7 = .nils ∧ σ 8 = .nils ∧ σ 16 = .int .i64 0 ∧ σ 17 = .int .i64 0) 0 ⟨rfl, rfl, rfl, rfl, rfl, rfl⟩ ?_
    rintro m σ h9 K9 ⟨rfl, s0, s7, s8, s16, s17⟩ -
    try simp only [s0, s7, s8, s16, s17, hr, or_false, false_or, Bool.and_self, Bool.and_true, Bool.true_and, Bool.and_false, Bool.false_and, Bool.not_not, Int.cast_ofNat_Int, beq_self_eq_true, Heap.set_same, Heap.set_set, Heap.kill_kset, Int.toNat_natCast, Int.natCast_nonneg, Int.ofNat_lt, Int.ofNat_le, Int.natCast_inj, pmC, pmE, pmS, pmV, pmK, pmQ, pmL, pmX, pmF, pmO, pmA, pmR, pmW, pmB, Option.isSome_some, ft, olds_ints, olds_bools, ↓reduceIte, Nat.reduceEqDiff, reduceCtorEq, Nat.reduceAdd, Nat.reduceMul, Nat.reduceLeDiff, Nat.reduceLT, Int.reduceLE, Int.reduceLT, Int.reduceEq, Int.reduceToNat, Nat.zero_mul, Nat.zero_add, Nat.mul_one, ne_eq, not_false_eq_true, not_true_eq_false, true_and, and_true, decide_true, decide_false, Bool.not_true, Bool.not_false, Bool.false_eq_true, and_self, Nat.add_zero]
    exact fin9 [] [] .nils .nils _ rfl (Acc.nil _ _ _) (Acc.nil _ _ _) (fun b e => by simp [blkOf] at e) (Heap.le_refl _)
  · try simp only [c59, r59_0, r59_1, r59_2, r59_3, r59_4, r59_5, r59_6, r59_7, r59_8, r59_9, r59_10, r59_11, r59_12, e1, e2, hr, hp, or_false, false_or, Bool.and_self, Bool.and_true, Bool.true_and, Bool.and_false, Bool.false_and, Bool.not_not, Int.cast_ofNat_Int, beq_self_eq_true, Heap.set_same, Heap.set_set, Heap.kill_kset, Int.toNat_natCast, Int.natCast_nonneg, Int.ofNat_lt, Int.ofNat_le, Int.natCast_inj, pmC, pmE, pmS, pmV, pmK, pmQ, pmL, pmX, pmF, pmO, pmA, pmR, pmW, pmB, Option.isSome_some, ft, olds_ints, olds_bools, ↓reduceIte, Nat.reduceEqDiff, reduceCtorEq, Nat.reduceAdd, Nat.reduceMul, Nat.reduceLeDiff, Nat.reduceLT, Int.reduceLE, Int.reduceLT, Int.reduceEq, Int.reduceToNat, Nat.zero_mul, Nat.zero_add, Nat.mul_one, ne_eq, not_false_eq_true, not_true_eq_false, true_and, and_true, decide_true, decide_false, Bool.not_true, Bool.not_false, Bool.false_eq_true, and_self, Nat.add_zero]
    refine pwp_up l.length (fun i σ h' => ∃ (T R : List Int) (e : Bool), Acc h h' (σ 7) 1 T.length (T.map (.int .i64)) ∧ Acc h h' (σ 8) 1 R.length (R.map (.int .i64)) ∧ (∀ b, blkOf (σ 7) = some b → blkOf (σ 8) ≠ some b) ∧ h.le h' ∧ T.length + R.length = i ∧
      takeF t1 t2 false l = (T ++ (takeF t1 t2 e (l.drop i)).1, R ++ (takeF t1 t2 e (l.drop i)).2) ∧
      σ 0 = .ptr rb 0 ∧ σ 1 = .fn g1 [] c1 ∧ σ 2 = .fn g2 [] c2 ∧ σ 9 = .bool e ∧ σ 15 = .buf pb 1 0 l.length ∧ σ 16 = .int .i64 l.length ∧ σ 17 = .int .i64 i) ?_ ?_
    · exact ⟨[], [], false, Acc.nil _ _ _, Acc.nil _ _ _, (fun b e => by simp [put, blkOf] at e), Heap.le_refl _, rfl, rfl, rfl, rfl, rfl, rfl, rfl, rfl, rfl⟩
    rintro i σ h' K' hi ⟨T, R, e, a, b, d, lh, hTR, hT, s0, s1, s2, s9, s15, s16, s17⟩ next
    rcases Nat.lt_or_ge i l.length with hlt | hge
    · have hw : IntKind.i64.wrap ((i : Int) + 1) = (i : Int) + 1 := wrap_in (by omega) (by omega)
      have hx := getm (PV.int .i64) l (i := i) (by omega)
      have hok := okl _ (get_mem l hlt)
      have hrb := lh _ _ hr
      have hpb := lh _ _ hp
      rw [drop_getD l (by omega)] at hT
      generalize l.getD i default = c at *
      cases e
      · try simp only [s0, s1, s2, s9, s15, s16, s17, hlt, hx, hpb, or_false, false_or, Bool.and_self, Bool.and_true, Bool.true_and, Bool.and_false, Bool.false_and, Bool.not_not, Int.cast_ofNat_Int, beq_self_eq_true, Heap.set_same, Heap.set_set, Heap.kill_kset, Int.toNat_natCast, Int.natCast_nonneg, Int.ofNat_lt, Int.ofNat_le, Int.natCast_inj, pmC, pmE, pmS, pmV, pmK, pmQ, pmL, pmX, pmF, pmO, pmA, pmR, pmW, pmB, Option.isSome_some, ft, olds_ints, olds_bools, ↓reduceIte, Nat.reduceEqDiff, reduceCtorEq, Nat.reduceAdd, Nat.reduceMul, Nat.reduceLeDiff, Nat.reduceLT, Int.reduceLE, Int.reduceLT, Int.reduceEq, Int.reduceToNat, Nat.zero_mul, Nat.zero_add, Nat.mul_one, ne_eq, not_false_eq_true, not_true_eq_false, true_and, and_true, decide_true, decide_false, Bool.not_true, Bool.not_false, Bool.false_eq_true, and_self, Nat.add_zero]
        refine T2 c _ _ hok ⟨_, hrb⟩ ?_
        by_cases q2 : t2 c = true
        · have q1 := q2
          try simp only [q2, or_false, false_or, Bool.and_self, Bool.and_true, Bool.true_and, Bool.and_false, Bool.false_and, Bool.not_not, Int.cast_ofNat_Int, beq_self_eq_true, Heap.set_same, Heap.set_set, Heap.kill_kset, Int.toNat_natCast, Int.natCast_nonneg, Int.ofNat_lt, Int.ofNat_le, Int.natCast_inj, pmC, pmE, pmS, pmV, pmK, pmQ, pmL, pmX, pmF, pmO, pmA, pmR, pmW, pmB, Option.isSome_some, ft, olds_ints, olds_bools, ↓reduceIte, Nat.reduceEqDiff, reduceCtorEq, Nat.reduceAdd, Nat.reduceMul, Nat.reduceLeDiff, Nat.reduceLT, Int.reduceLE, Int.reduceLT, Int.reduceEq, Int.reduceToNat, Nat.zero_mul, Nat.zero_add, Nat.mul_one, ne_eq, not_false_eq_true, not_true_eq_false, true_and, and_true, decide_true, decide_false, Bool.not_true, Bool.not_false, Bool.false_eq_true, and_self, Nat.add_zero]
          refine b.app lh (by decide) rfl (by omega) (by simp only [maxLen]; omega) fun v' h3 b' l' sd => ?_
          try simp only [s17, hw, or_false, false_or, Bool.and_self, Bool.and_true, Bool.true_and, Bool.and_false, Bool.false_and, Bool.not_not, Int.cast_ofNat_Int, beq_self_eq_true, Heap.set_same, Heap.set_set, Heap.kill_kset, Int.toNat_natCast, Int.natCast_nonneg, Int.ofNat_lt, Int.ofNat_le, Int.natCast_inj, pmC, pmE, pmS, pmV, pmK, pmQ, pmL, pmX, pmF, pmO, pmA, pmR, pmW, pmB, Option.isSome_some, ft, olds_ints, olds_bools, ↓reduceIte, Nat.reduceEqDiff, reduceCtorEq, Nat.reduceAdd, Nat.reduceMul, Nat.reduceLeDiff, Nat.reduceLT, Int.reduceLE, Int.reduceLT, Int.reduceEq, Int.reduceToNat, Nat.zero_mul, Nat.zero_add, Nat.mul_one, ne_eq, not_false_eq_true, not_true_eq_false, true_and, and_true, decide_true, decide_false, Bool.not_true, Bool.not_false, Bool.false_eq_true, and_self, Nat.add_zero]
          have a' := a.beside sd d
          refine next hlt _ _ ⟨T, R ++ [c], true, by simpa [put] using a'.1, by simpa [put] using b', by simpa [put] using a'.2, l', by simp; omega, ?_, by simp [put, s0], by simp [put, s1], by simp [put, s2], by simp [put, s9], by simp [put, s15], by simp [put, s16], by simp [put]⟩
          rw [hT]; simp [takeF, q1, q2]
        · rw [Bool.not_eq_true] at q2
          try simp only [q2, s1, or_false, false_or, Bool.and_self, Bool.and_true, Bool.true_and, Bool.and_false, Bool.false_and, Bool.not_not, Int.cast_ofNat_Int, beq_self_eq_true, Heap.set_same, Heap.set_set, Heap.kill_kset, Int.toNat_natCast, Int.natCast_nonneg, Int.ofNat_lt, Int.ofNat_le, Int.natCast_inj, pmC, pmE, pmS, pmV, pmK, pmQ, pmL, pmX, pmF, pmO, pmA, pmR, pmW, pmB, Option.isSome_some, ft, olds_ints, olds_bools, ↓reduceIte, Nat.reduceEqDiff, reduceCtorEq, Nat.reduceAdd, Nat.reduceMul, Nat.reduceLeDiff, Nat.reduceLT, Int.reduceLE, Int.reduceLT, Int.reduceEq, Int.reduceToNat, Nat.zero_mul, Nat.zero_add, Nat.mul_one, ne_eq, not_false_eq_true, not_true_eq_false, true_and, and_true, decide_true, decide_false, Bool.not_true, Bool.not_false, Bool.false_eq_true, and_self, Nat.add_zero]
          refine T1 c _ _ hok ⟨_, hrb⟩ ?_
          by_cases q1 : t1 c = true
          · try simp only [q1, or_false, false_or, Bool.and_self, Bool.and_true, Bool.true_and, Bool.and_false, Bool.false_and, Bool.not_not, Int.cast_ofNat_Int, beq_self_eq_true, Heap.set_same, Heap.set_set, Heap.kill_kset, Int.toNat_natCast, Int.natCast_nonneg, Int.ofNat_lt, Int.ofNat_le, Int.natCast_inj, pmC, pmE, pmS, pmV, pmK, pmQ, pmL, pmX, pmF, pmO, pmA, pmR, pmW, pmB, Option.isSome_some, ft, olds_ints, olds_bools, ↓reduceIte, Nat.reduceEqDiff, reduceCtorEq, Nat.reduceAdd, Nat.reduceMul, Nat.reduceLeDiff, Nat.reduceLT, Int.reduceLE, Int.reduceLT, Int.reduceEq, Int.reduceToNat, Nat.zero_mul, Nat.zero_add, Nat.mul_one, ne_eq, not_false_eq_true, not_true_eq_false, true_and, and_true, decide_true, decide_false, Bool.not_true, Bool.not_false, Bool.false_eq_true, and_self, Nat.add_zero]
            refine a.app lh (by decide) rfl (by omega) (by simp only [maxLen]; omega) fun v' h3 a' l' sd => ?_
            try simp only [s17, hw, or_false, false_or, Bool.and_self, Bool.and_true, Bool.true_and, Bool.and_false, Bool.false_and, Bool.not_not, Int.cast_ofNat_Int, beq_self_eq_true, Heap.set_same, Heap.set_set, Heap.kill_kset, Int.toNat_natCast, Int.natCast_nonneg, Int.ofNat_lt, Int.ofNat_le, Int.natCast_inj, pmC, pmE, pmS, pmV, pmK, pmQ, pmL, pmX, pmF, pmO, pmA, pmR, pmW, pmB, Option.isSome_some, ft, olds_ints, olds_bools, ↓reduceIte, Nat.reduceEqDiff, reduceCtorEq, Nat.reduceAdd, Nat.reduceMul, Nat.reduceLeDiff, Nat.reduceLT, Int.reduceLE, Int.reduceLT, Int.reduceEq, Int.reduceToNat, Nat.zero_mul, Nat.zero_add, Nat.mul_one, ne_eq, not_false_eq_true, not_true_eq_false, true_and, and_true, decide_true, decide_false, Bool.not_true, Bool.not_false, Bool.false_eq_true, and_self, Nat.add_zero]
            have b' := b.beside sd (fun b e1 e2 => d b e2 e1)
            refine next hlt _ _ ⟨T ++ [c], R, false, by simpa [put] using a', by simpa [put] using b'.1, by simpa [put] using fun b e1 e2 => b'.2 b e2 e1, l', by simp; omega, ?_, by simp [put, s0], by simp [put, s1], by simp [put, s2], by simp [put, s9], by simp [put, s15], by simp [put, s16], by simp [put]⟩
            rw [hT]; simp [takeF, q1, q2]
          · rw [Bool.not_eq_true] at q1
            try simp only [q1, or_false, false_or, Bool.and_self, Bool.and_true, Bool.true_and, Bool.and_false, Bool.false_and, Bool.not_not, Int.cast_ofNat_Int, beq_self_eq_true, Heap.set_same, Heap.set_set, Heap.kill_kset, Int.toNat_natCast, Int.natCast_nonneg, Int.ofNat_lt, Int.ofNat_le, Int.natCast_inj, pmC, pmE, pmS, pmV, pmK, pmQ, pmL, pmX, pmF, pmO, pmA, pmR, pmW, pmB, Option.isSome_some, ft, olds_ints, olds_bools, ↓reduceIte, Nat.reduceEqDiff, reduceCtorEq, Nat.reduceAdd, Nat.reduceMul, Nat.reduceLeDiff, Nat.reduceLT, Int.reduceLE, Int.reduceLT, Int.reduceEq, Int.reduceToNat, Nat.zero_mul, Nat.zero_add, Nat.mul_one, ne_eq, not_false_eq_true, not_true_eq_false, true_and, and_true, decide_true, decide_false, Bool.not_true, Bool.not_false, Bool.false_eq_true, and_self, Nat.add_zero]
            refine b.app lh (by decide) rfl (by omega) (by simp only [maxLen]; omega) fun v' h3 b' l' sd => ?_
            try simp only [s17, hw, or_false, false_or, Bool.and_self, Bool.and_true, Bool.true_and, Bool.and_false, Bool.false_and, Bool.not_not, Int.cast_ofNat_Int, beq_self_eq_true, Heap.set_same, Heap.set_set, Heap.kill_kset, Int.toNat_natCast, Int.natCast_nonneg, Int.ofNat_lt, Int.ofNat_le, Int.natCast_inj, pmC, pmE, pmS, pmV, pmK, pmQ, pmL, pmX, pmF, pmO, pmA, pmR, pmW, pmB, Option.isSome_some, ft, olds_ints, olds_bools, ↓reduceIte, Nat.reduceEqDiff, reduceCtorEq, Nat.reduceAdd, Nat.reduceMul, Nat.reduceLeDiff, Nat.reduceLT, Int.reduceLE, Int.reduceLT, Int.reduceEq, Int.reduceToNat, Nat.zero_mul, Nat.zero_add, Nat.mul_one, ne_eq, not_false_eq_true, not_true_eq_false, true_and, and_true, decide_true, decide_false, Bool.not_true, Bool.not_false, Bool.false_eq_true, and_self, Nat.add_zero]
            have a' := a.beside sd d
            refine next hlt _ _ ⟨T, R ++ [c], false, by simpa [put] using a'.1, by simpa [put] using b', by simpa [put] using a'.2, l', by simp; omega, ?_, by simp [put, s0], by simp [put, s1], by simp [put, s2], by simp [put, s9], by simp [put, s15], by simp [put, s16], by simp [put]⟩
            rw [hT]; simp [takeF, q1, q2]
      · have q1 : True := trivial
        have q2 : True := trivial
        try simp only [s0, s1, s2, s9, s15, s16, s17, hlt, hx, hpb, or_false, false_or, Bool.and_self, Bool.and_true, Bool.true_and, Bool.and_false, Bool.false_and, Bool.not_not, Int.cast_ofNat_Int, beq_self_eq_true, Heap.set_same, Heap.set_set, Heap.kill_kset, Int.toNat_natCast, Int.natCast_nonneg, Int.ofNat_lt, Int.ofNat_le, Int.natCast_inj, pmC, pmE, pmS, pmV, pmK, pmQ, pmL, pmX, pmF, pmO, pmA, pmR, pmW, pmB, Option.isSome_some, ft, olds_ints, olds_bools, ↓reduceIte, Nat.reduceEqDiff, reduceCtorEq, Nat.reduceAdd, Nat.reduceMul, Nat.reduceLeDiff, Nat.reduceLT, Int.reduceLE, Int.reduceLT, Int.reduceEq, Int.reduceToNat, Nat.zero_mul, Nat.zero_add, Nat.mul_one, ne_eq, not_false_eq_true, not_true_eq_false, true_and, and_true, decide_true, decide_false, Bool.not_true, Bool.not_false, Bool.false_eq_true, and_self, Nat.add_zero]
        refine b.app lh (by decide) rfl (by omega) (by simp only [maxLen]; omega) fun v' h3 b' l' sd => ?_
        try simp only [s17, hw, or_false, false_or, Bool.and_self, Bool.and_true, Bool.true_and, Bool.and_false, Bool.false_and, Bool.not_not, Int.cast_ofNat_Int, beq_self_eq_true, Heap.set_same, Heap.set_set, Heap.kill_kset, Int.toNat_natCast, Int.natCast_nonneg, Int.ofNat_lt, Int.ofNat_le, Int.natCast_inj, pmC, pmE, pmS, pmV, pmK, pmQ, pmL, pmX, pmF, pmO, pmA, pmR, pmW, pmB, Option.isSome_some, ft, olds_ints, olds_bools, ↓reduceIte, Nat.reduceEqDiff, reduceCtorEq, Nat.reduceAdd, Nat.reduceMul, Nat.reduceLeDiff, Nat.reduceLT, Int.reduceLE, Int.reduceLT, Int.reduceEq, Int.reduceToNat, Nat.zero_mul, Nat.zero_add, Nat.mul_one, ne_eq, not_false_eq_true, not_true_eq_false, true_and, and_true, decide_true, decide_false, Bool.not_true, Bool.not_false, Bool.false_eq_true, and_self, Nat.add_zero]
        have a' := a.beside sd d
        refine next hlt _ _ ⟨T, R ++ [c], true, by simpa [put] using a'.1, by simpa [put] using b', by simpa [put] using a'.2, l', by simp; omega, ?_, by simp [put, s0], by simp [put, s1], by simp [put, s2], by simp [put, s9], by simp [put, s15], by simp [put, s16], by simp [put]⟩
        rw [hT]; simp [takeF, q1, q2]
    · have e : i = l.length := by omega
      subst e
      have hnl := Nat.lt_irrefl l.length
      have hrb := lh _ _ hr
      have hfl : Pm.flat (σ 8) = some [σ 8] := by rcases b with ⟨e, _⟩ | ⟨b, e, _⟩ <;> rw [e] <;> rfl
      try simp only [s0, s16, s17, hnl, hrb, hfl, or_false, false_or, Bool.and_self, Bool.and_true, Bool.true_and, Bool.and_false, Bool.false_and, Bool.not_not, Int.cast_ofNat_Int, beq_self_eq_true, Heap.set_same, Heap.set_set, Heap.kill_kset, Int.toNat_natCast, Int.natCast_nonneg, Int.ofNat_lt, Int.ofNat_le, Int.natCast_inj, pmC, pmE, pmS, pmV, pmK, pmQ, pmL, pmX, pmF, pmO, pmA, pmR, pmW, pmB, Option.isSome_some, ft, olds_ints, olds_bools, ↓reduceIte, Nat.reduceEqDiff, reduceCtorEq, Nat.reduceAdd, Nat.reduceMul, Nat.reduceLeDiff, Nat.reduceLT, Int.reduceLE, Int.reduceLT, Int.reduceEq, Int.reduceToNat, Nat.zero_mul, Nat.zero_add, Nat.mul_one, ne_eq, not_false_eq_true, not_true_eq_false, true_and, and_true, decide_true, decide_false, Bool.not_true, Bool.not_false, Bool.false_eq_true, and_self, Nat.add_zero]
      refine fin9 T R _ _ _ ?_ a b d lh
      rw [hT, List.drop_length]; simp [takeF]
end Go.Proofs.Ytnalkkailafklaa
