/-
  Marks as they are drawn: shaddas, movables, walked.
  Conditions: none but those that each sentence tells.
-/
import Derived.Test.YtnalkkailafklaaAmt2
namespace Go.Proofs.Ytnalkkailafklaa
open Go.Pm
set_option maxRecDepth 100000
set_option linter.unusedSimpArgs false
set_option linter.unusedVariables false

def okP (X : List Int) (a : Int) : Prop := 0 ≤ a ∧ a < X.length
def isC (f : Int → Int) (X : List Int) (cls a : Int) : Bool := decide (f (X.getD a.toNat default) = cls)
def stC (f : Int → Int) (X : List Int) (cls a : Int) : Bool := decide (f (X.getD a.toNat default) = cls) && !mvT (X.getD a.toNat default)
/-- What is taken class by class, and what is left. -/
def movs (f : Int → Int) (X : List Int) : List Int → List Int → List Int × List Int
  | [], l => ([], l)
  | c :: cs, l => ((takeF (isC f X c) (stC f X c) false l).1 ++ (movs f X cs (takeF (isC f X c) (stC f X c) false l).2).1, (movs f X cs (takeF (isC f X c) (stC f X c) false l).2).2)
theorem shaddasC (v : PV) (f : Int → Int) (hv : CO v f) (fr : Bool) (X : List Int) (rb : Nat) (u : PV) (l : List Int) (hl : l.length ≤ 1000000) (okl : ∀ x ∈ l, okP X x) (h : Heap)
    (hr : h.f rb = some [v, .list fr 1 X.length (X.map (.int .i64)), u]) (hu : Lv h rb u l)
    {K : PV → Heap → Prop} (k : ∀ w h', (∀ x cs, x ≠ rb → h.f x = some cs → h'.f x = some cs) → h'.f rb = some [v, .list fr 1 X.length (X.map (.int .i64)), w] → Lv h' rb w (takeF (isC f X 33) (fun _ => false) false l).2 →
      K (.list true 1 (takeF (isC f X 33) (fun _ => false) false l).1.length ((takeF (isC f X 33) (fun _ => false) false l).1.map (.int .i64))) h') :
    CanP Try.prog 41 [.ptr rb 0] h K := by
  refine e41 rfl ?_
  try simp only [c41, r41_0, r41_1, or_false, false_or, Bool.and_self, Bool.and_true, Bool.true_and, Bool.and_false, Bool.false_and, Bool.not_not, Int.cast_ofNat_Int, beq_self_eq_true, Heap.set_same, Heap.set_set, Heap.kill_kset, Int.toNat_natCast, Int.natCast_nonneg, Int.ofNat_lt, Int.ofNat_le, Int.natCast_inj, pmC, pmE, pmS, pmV, pmK, pmQ, pmL, pmX, pmF, pmO, pmA, pmR, pmW, pmB, Option.isSome_some, ft, olds_ints, olds_bools, ↓reduceIte, Nat.reduceEqDiff, reduceCtorEq, Nat.reduceAdd, Nat.reduceMul, Nat.reduceLeDiff, Nat.reduceLT, Int.reduceLE, Int.reduceLT, Int.reduceEq, Int.reduceToNat, Nat.zero_mul, Nat.zero_add, Nat.mul_one, ne_eq, not_false_eq_true, not_true_eq_false, true_and, and_true, decide_true, decide_false, Bool.not_true, Bool.not_false, Bool.false_eq_true, and_self, Nat.add_zero]
  refine takeC _ _ _ _ _ _ rfl rfl rb v _ u (okP X) (isC f X 33) (fun _ => false) ?_ ?_ l hl okl _ hr hu ?_
  · rintro a h K ok ⟨row, hb⟩ k
    exact shaddas1 v f hv fr false X rb row a ok.1 ok.2 h hb k
  · rintro a h K ok ⟨row, hb⟩ k
    exact never a h k
  · intro w h' keep hfr hr' hw
    try simp only [or_false, false_or, Bool.and_self, Bool.and_true, Bool.true_and, Bool.and_false, Bool.false_and, Bool.not_not, Int.cast_ofNat_Int, beq_self_eq_true, Heap.set_same, Heap.set_set, Heap.kill_kset, Int.toNat_natCast, Int.natCast_nonneg, Int.ofNat_lt, Int.ofNat_le, Int.natCast_inj, pmC, pmE, pmS, pmV, pmK, pmQ, pmL, pmX, pmF, pmO, pmA, pmR, pmW, pmB, Option.isSome_some, ft, olds_ints, olds_bools, ↓reduceIte, Nat.reduceEqDiff, reduceCtorEq, Nat.reduceAdd, Nat.reduceMul, Nat.reduceLeDiff, Nat.reduceLT, Int.reduceLE, Int.reduceLT, Int.reduceEq, Int.reduceToNat, Nat.zero_mul, Nat.zero_add, Nat.mul_one, ne_eq, not_false_eq_true, not_true_eq_false, true_and, and_true, decide_true, decide_false, Bool.not_true, Bool.not_false, Bool.false_eq_true, and_self, Nat.add_zero]
    exact finK_rf (k w h' keep hr' hw)
theorem movablesC (v : PV) (f : Int → Int) (hv : CO v f) (fr fr2 : Bool) (X : List Int) (rb : Nat) (u : PV) (C : List Int) (hC : C.length ≤ 10) (l : List Int) (hl : l.length ≤ 1000000) (okl : ∀ x ∈ l, okP X x) (h : Heap)
    (hr : h.f rb = some [v, .list fr 1 X.length (X.map (.int .i64)), u]) (hu : Lv h rb u l)
    {K : PV → Heap → Prop} (k : ∀ w h', (∀ x cs, x ≠ rb → h.f x = some cs → h'.f x = some cs) → h'.f rb = some [v, .list fr 1 X.length (X.map (.int .i64)), w] → Lv h' rb w (movs f X C l).2 →
      K (.list true 1 (movs f X C l).1.length ((movs f X C l).1.map (.int .i64))) h') :
    CanP Try.prog 42 [.ptr rb 0, .list fr2 1 C.length (C.map (.int .i64))] h K := by
  refine e42 rfl ?_
  try simp only [c42, r42_0, r42_1, r42_2, r42_3, r42_4, r42_5, r42_6, r42_7, r42_8, r42_9, or_false, false_or, Bool.and_self, Bool.and_true, Bool.true_and, Bool.and_false, Bool.false_and, Bool.not_not, Int.cast_ofNat_Int, beq_self_eq_true, Heap.set_same, Heap.set_set, Heap.kill_kset, Int.toNat_natCast, Int.natCast_nonneg, Int.ofNat_lt, Int.ofNat_le, Int.natCast_inj, pmC, pmE, pmS, pmV, pmK, pmQ, pmL, pmX, pmF, pmO, pmA, pmR, pmW, pmB, Option.isSome_some, ft, olds_ints, olds_bools, ↓reduceIte, Nat.reduceEqDiff, reduceCtorEq, Nat.reduceAdd, Nat.reduceMul, Nat.reduceLeDiff, Nat.reduceLT, Int.reduceLE, Int.reduceLT, Int.reduceEq, Int.reduceToNat, Nat.zero_mul, Nat.zero_add, Nat.mul_one, ne_eq, not_false_eq_true, not_true_eq_false, true_and, and_true, decide_true, decide_false, Bool.not_true, Bool.not_false, Bool.false_eq_true, and_self, Nat.add_zero]
  have hlk : (h.kill rb).le h := fun x cs hx => by
    have hn : x ≠ rb := fun e => by rw [e, Heap.kill_same] at hx; cases hx
    rw [Heap.kill_ne _ hn] at hx; exact hx
  refine pwp_up C.length (fun i σ h' => ∃ (O R : List Int) (w : PV), Acc (h.kill rb) h' (σ 5) 1 O.length (O.map (.int .i64)) ∧ blkOf (σ 5) ≠ some rb ∧ (∀ b, blkOf (σ 5) = some b → blkOf w ≠ some b) ∧ (∀ x cs, x ≠ rb → h.f x = some cs → h'.f x = some cs) ∧ h'.f rb = some [v, .list fr 1 X.length (X.map (.int .i64)), w] ∧ Lv h' rb w R ∧
      R.length + O.length = l.length ∧ (∀ x ∈ R, okP X x) ∧ movs f X C l = (O ++ (movs f X (C.drop i) R).1, (movs f X (C.drop i) R).2) ∧
      σ 2 = .fptr true [.ptr rb 0] 0 ∧ σ 10 = .list false 1 C.length (C.map (.int .i64)) ∧ σ 11 = .int .i64 C.length ∧ σ 12 = .int .i64 i) ?_ ?_
  · exact ⟨[], l, u, Acc.nil _ _ _, by simp [put, blkOf], (fun b e => by simp [put, blkOf] at e), fun _ _ _ e => e, hr, hu, by simp, okl, rfl, rfl, rfl, rfl, rfl⟩
  rintro i σ h' K' hi ⟨O, R, w, a, ane, adis, kp, hr', hw', hRO, okR, hM, s2, s10, s11, s12⟩ next
  rcases Nat.lt_or_ge i C.length with hlt | hge
  · have hwr : IntKind.i64.wrap ((i : Int) + 1) = (i : Int) + 1 := wrap_in (by omega) (by omega)
    have hx := getm (PV.int .i64) C (i := i) (by omega)
    rw [drop_getD C (by omega)] at hM
    generalize C.getD i default = c at *
    simp only [movs] at hM
    have htl := takeF_len (isC f X c) (stC f X c) R false
    have htm := takeF_mem (isC f X c) (stC f X c) R false
    try simp only [s2, s10, s11, s12, hlt, hx, or_false, false_or, Bool.and_self, Bool.and_true, Bool.true_and, Bool.and_false, Bool.false_and, Bool.not_not, Int.cast_ofNat_Int, beq_self_eq_true, Heap.set_same, Heap.set_set, Heap.kill_kset, Int.toNat_natCast, Int.natCast_nonneg, Int.ofNat_lt, Int.ofNat_le, Int.natCast_inj, pmC, pmE, pmS, pmV, pmK, pmQ, pmL, pmX, pmF, pmO, pmA, pmR, pmW, pmB, Option.isSome_some, ft, olds_ints, olds_bools, ↓reduceIte, Nat.reduceEqDiff, reduceCtorEq, Nat.reduceAdd, Nat.reduceMul, Nat.reduceLeDiff, Nat.reduceLT, Int.reduceLE, Int.reduceLT, Int.reduceEq, Int.reduceToNat, Nat.zero_mul, Nat.zero_add, Nat.mul_one, ne_eq, not_false_eq_true, not_true_eq_false, true_and, and_true, decide_true, decide_false, Bool.not_true, Bool.not_false, Bool.false_eq_true, and_self, Nat.add_zero]
    intro b hb b1 hb1
    rw [Heap.kill_none hb] at hb1
    rw [Heap.kill_none hb, Heap.kill_none hb1]
    refine takeC _ _ _ _ _ _ rfl rfl rb v _ w (okP X) (isC f X c) (stC f X c) ?_ ?_ R (by omega) okR _ hr' hw' ?_
    · rintro a h K ok ⟨row, hb⟩ k
      exact movables1 v f hv fr false false X rb row a c ok.1 ok.2 h hb k
    · rintro a h K ok ⟨row, hb⟩ k
      exact movables2 v f hv fr false false false false X rb row a c ok.1 ok.2 h hb k
    · intro w2 h2 keep hfr hr2 hw2
      have a2 := accKeep a ane keep
      have le2 : (h.kill rb).le h2 := fun x cs hx => by
        have hn : x ≠ rb := fun e => by rw [e, Heap.kill_same] at hx; cases hx
        rw [Heap.kill_ne _ hn] at hx
        exact keep _ _ hn (kp _ _ hn hx)
      have hfresh : ∀ b, blkOf (σ 5) = some b → blkOf w2 ≠ some b := by
        intro b e1 e2
        have q := hfr b e2
        rcases a with ⟨e, _⟩ | ⟨b', e, _, q2, _⟩
        · rw [e] at e1; cases e1
        · rw [e] at e1; cases e1; rw [q] at q2; cases q2
      generalize takeF (isC f X c) (stC f X c) false R = tr at *
      try simp only [or_false, false_or, Bool.and_self, Bool.and_true, Bool.true_and, Bool.and_false, Bool.false_and, Bool.not_not, Int.cast_ofNat_Int, beq_self_eq_true, Heap.set_same, Heap.set_set, Heap.kill_kset, Int.toNat_natCast, Int.natCast_nonneg, Int.ofNat_lt, Int.ofNat_le, Int.natCast_inj, pmC, pmE, pmS, pmV, pmK, pmQ, pmL, pmX, pmF, pmO, pmA, pmR, pmW, pmB, Option.isSome_some, ft, olds_ints, olds_bools, ↓reduceIte, Nat.reduceEqDiff, reduceCtorEq, Nat.reduceAdd, Nat.reduceMul, Nat.reduceLeDiff, Nat.reduceLT, Int.reduceLE, Int.reduceLT, Int.reduceEq, Int.reduceToNat, Nat.zero_mul, Nat.zero_add, Nat.mul_one, ne_eq, not_false_eq_true, not_true_eq_false, true_and, and_true, decide_true, decide_false, Bool.not_true, Bool.not_false, Bool.false_eq_true, and_self, Nat.add_zero]
      refine a2.appA le2 (by simp) (by omega) (by simp only [maxLen]; omega) fun v' h3 a3 l3 sd => ?_
      try simp only [s12, hwr, or_false, false_or, Bool.and_self, Bool.and_true, Bool.true_and, Bool.and_false, Bool.false_and, Bool.not_not, Int.cast_ofNat_Int, beq_self_eq_true, Heap.set_same, Heap.set_set, Heap.kill_kset, Int.toNat_natCast, Int.natCast_nonneg, Int.ofNat_lt, Int.ofNat_le, Int.natCast_inj, pmC, pmE, pmS, pmV, pmK, pmQ, pmL, pmX, pmF, pmO, pmA, pmR, pmW, pmB, Option.isSome_some, ft, olds_ints, olds_bools, ↓reduceIte, Nat.reduceEqDiff, reduceCtorEq, Nat.reduceAdd, Nat.reduceMul, Nat.reduceLeDiff, Nat.reduceLT, Int.reduceLE, Int.reduceLT, Int.reduceEq, Int.reduceToNat, Nat.zero_mul, Nat.zero_add, Nat.mul_one, ne_eq, not_false_eq_true, not_true_eq_false, true_and, and_true, decide_true, decide_false, Bool.not_true, Bool.not_false, Bool.false_eq_true, and_self, Nat.add_zero]
      have hr3 := sd _ _ hr2 ane
      refine next hlt _ _ ⟨O ++ tr.1, tr.2, w2, ?_, ?_, ?_, ?_, hr3.1, ?_, ?_, ?_, ?_, by simp [put, s2], by simp [put, s10], by simp [put, s11], by simp [put]⟩
      · simpa [put] using a3
      · simpa [put] using hr3.2
      · intro b e1 e2
        rcases hw2 with ⟨q, _⟩ | ⟨pb, rfl, q1, q2⟩
        · rw [q] at e2; cases e2
        · cases e2
          exact (sd _ _ q2 (fun e => hfresh _ e rfl)).2 (by simpa [put] using e1)
      · intro x cs hn hx
        by_cases e : blkOf (σ 5) = some x
        · exfalso
          rcases a with ⟨e2, _⟩ | ⟨b', e2, q, q2, _⟩
          · rw [e2] at e; cases e
          · rw [e2] at e; cases e; rw [Heap.kill_ne _ hn, hx] at q; cases q
        · exact (sd _ _ (keep _ _ hn (kp _ _ hn hx)) e).1
      · rcases hw2 with q | ⟨pb, rfl, q1, q2⟩
        · exact .inl q
        · exact .inr ⟨pb, rfl, q1, (sd _ _ q2 (fun e => hfresh _ e rfl)).1⟩
      · rw [List.length_append]; omega
      · exact fun x hx => okR _ (htm.2 x hx)
      · rw [hM]; simp only [List.append_assoc]
  · have e : i = C.length := by omega
    subst e
    have hnl := Nat.lt_irrefl C.length
    try simp only [s11, s12, hnl, or_false, false_or, Bool.and_self, Bool.and_true, Bool.true_and, Bool.and_false, Bool.false_and, Bool.not_not, Int.cast_ofNat_Int, beq_self_eq_true, Heap.set_same, Heap.set_set, Heap.kill_kset, Int.toNat_natCast, Int.natCast_nonneg, Int.ofNat_lt, Int.ofNat_le, Int.natCast_inj, pmC, pmE, pmS, pmV, pmK, pmQ, pmL, pmX, pmF, pmO, pmA, pmR, pmW, pmB, Option.isSome_some, ft, olds_ints, olds_bools, ↓reduceIte, Nat.reduceEqDiff, reduceCtorEq, Nat.reduceAdd, Nat.reduceMul, Nat.reduceLeDiff, Nat.reduceLT, Int.reduceLE, Int.reduceLT, Int.reduceEq, Int.reduceToNat, Nat.zero_mul, Nat.zero_add, Nat.mul_one, ne_eq, not_false_eq_true, not_true_eq_false, true_and, and_true, decide_true, decide_false, Bool.not_true, Bool.not_false, Bool.false_eq_true, and_self, Nat.add_zero]
    have ab : Acc h h' (σ 5) 1 O.length (O.map (.int .i64)) := accBase a fun b e q => by
      have hn : b ≠ rb := fun e2 => ane (by rw [← e2]; exact e)
      rwa [Heap.kill_ne _ hn] at q
    obtain ⟨h2, wk, kp2⟩ := wk2 ab
    rw [olds_ints] at wk
    rw [hM, List.drop_length] at k
    simp only [movs, List.append_nil] at k
    have hlive : ∀ x cs, h.f x = some cs → blkOf (σ 5) ≠ some x := fun x cs hx e => by
      rcases ab with ⟨e2, _⟩ | ⟨b', e2, q, q2, _⟩
      · rw [e2] at e; cases e
      · rw [e2] at e; cases e; rw [hx] at q; cases q
    refine ⟨_, h2, wk, k w h2 (fun x cs hn hx => kp2 _ _ (kp _ _ hn hx) (hlive _ _ hx)) (kp2 _ _ hr' ane) ?_⟩
    rcases hw' with q | ⟨pb, rfl, q1, q2⟩
    · exact .inl q
    · refine .inr ⟨pb, rfl, q1, kp2 _ _ q2 ?_⟩
      exact fun e => adis _ e rfl
end Go.Proofs.Ytnalkkailafklaa
