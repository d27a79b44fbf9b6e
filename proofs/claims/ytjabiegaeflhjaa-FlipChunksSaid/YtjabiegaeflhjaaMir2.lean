/-
  What is seen of a code the other way round: find, back, Mirror; and the document's answer.
  Conditions: none but those that each sentence tells.
-/
import Derived.Test.YtjabiegaeflhjaaMir1
namespace Go.Proofs.Ytjabiegaeflhjaa
open Go.Pm
set_option maxRecDepth 100000
set_option linter.unusedSimpArgs false
set_option linter.unusedVariables false

def riseB : List (Int × Int) → Bool
  | a :: b :: l => decide (a.1 ≤ b.1) && riseB (b :: l)
  | _ => true
theorem rise_le : ∀ (l : List (Int × Int)), riseB l = true → ∀ i j, i ≤ j → j < l.length → (l.getD i default).1 ≤ (l.getD j default).1
  | [], _, i, j, _, h => by simp at h
  | [a], _, i, j, hij, h => by
    have : j = 0 := by simpa using h
    have : i = 0 := by omega
    subst_vars; exact Int.le_refl _
  | a :: b :: l, hr, i, j, hij, h => by
    rw [riseB, Bool.and_eq_true] at hr
    have ih := rise_le (b :: l) hr.2
    have h1 : a.1 ≤ b.1 := by simpa using hr.1
    cases j with
    | zero => have : i = 0 := by omega
              subst this; exact Int.le_refl _
    | succ j =>
      cases i with
      | zero =>
        have := ih 0 j (by omega) (by simpa using h)
        simp only [List.getD_cons_succ, List.getD_cons_zero] at this ⊢
        exact Int.le_trans h1 this
      | succ i =>
        have := ih i j (by omega) (by simpa using h)
        simpa using this
theorem mrs_rise : riseB mrs = true := by kernel_rfl
def opT (c : Int) : Option (Int × Int) := mrs.find? fun p => decide (p.1 = c)
def clT (c : Int) : Option (Int × Int) := mrs.find? fun p => decide (p.2 = c)
def mirT (c : Int) : Int := match opT c with
  | some p => p.2
  | none => match clT c with
    | some p => p.1
    | none => c
def oneK (K : PV → Heap → Prop) (h : Heap) : Option (Int × Int) → Prop
  | some p => K (.tup [.agg [.int .i64 p.1, .int .i64 p.2], .bool true]) h
  | none => K (.tup [.agg [.int .i64 0, .int .i64 0], .bool false]) h
theorem sp_at (l : List (Int × Int)) {i : Nat} (h : i < l.length) : (l.flatMap sp)[i * 2]? = some (.int .i64 (l.getD i default).1) ∧ (l.flatMap sp)[i * 2 + 1]? = some (.int .i64 (l.getD i default).2) := by
  have h0 := flat_get sp 2 sp_len l (j := 0) h (by decide)
  have h1 := flat_get sp 2 sp_len l (j := 1) h (by decide)
  exact ⟨h0, h1⟩
theorem find1 (fr1 fr2 fr3 : Bool) (c : Int) (i : Nat) (hi : i < mrs.length) (h : Heap) {K : PV → Heap → Prop} (k : K (.bool (decide (c ≤ (mrs.getD i default).1))) h) :
    CanP Try.prog 54 [.int .i64 i, .fptr fr1 [.list fr2 2 mrs.length (mrs.flatMap sp)] 0, .fptr fr3 [.int .i64 c] 0] h K := by
  refine e54 rfl ?_
  have hx := (sp_at mrs hi).1
  have hle : i * 2 + 2 ≤ (mrs.flatMap sp).length := by rw [flat_length sp 2 sp_len]; omega
  have hln : mrs.length * 2 = (mrs.flatMap sp).length := (flat_length sp 2 sp_len mrs).symm
  try simp only [c54, r54_0, r54_1, old_sp, hi, hx, hle, or_false, false_or, Bool.and_self, Bool.and_true, Bool.true_and, Bool.and_false, Bool.false_and, Bool.not_not, Int.cast_ofNat_Int, beq_self_eq_true, Heap.set_same, Heap.set_set, Heap.kill_kset, Int.toNat_natCast, Int.natCast_nonneg, Int.ofNat_lt, Int.ofNat_le, Int.natCast_inj, pmC, pmE, pmS, pmV, pmK, pmQ, pmL, pmX, pmF, pmO, pmA, pmR, pmW, pmB, Option.isSome_some, ft, olds_ints, olds_bools, ↓reduceIte, Nat.reduceEqDiff, reduceCtorEq, Nat.reduceAdd, Nat.reduceMul, Nat.reduceLeDiff, Nat.reduceLT, Int.reduceLE, Int.reduceLT, Int.reduceEq, Int.reduceToNat, Nat.zero_mul, Nat.zero_add, Nat.mul_one, ne_eq, not_false_eq_true, not_true_eq_false, true_and, and_true, decide_true, decide_false, Bool.not_true, Bool.not_false, Bool.false_eq_true, and_self, Nat.add_zero]
  exact finK_le (Heap.le_refl _) k
theorem opT_some {c : Int} {r : Nat} (hr : r < mrs.length) (h1 : ∀ j, j < r → decide (c ≤ (mrs.getD j default).1) = false) (h2 : (mrs.getD r default).1 = c) : opT c = some (mrs.getD r default) := by
  unfold opT
  rw [List.find?_eq_some_iff_getElem]
  refine ⟨by rw [h2]; simp, r, hr, by simp [List.getD, hr], fun j hj => ?_⟩
  have := h1 j hj
  have e : mrs.getD j default = mrs[j] := by simp [List.getD, Nat.lt_trans hj hr]
  rw [e] at this
  simp at this ⊢
  omega
theorem opT_none {c : Int} {r : Nat} (h1 : ∀ j, j < r → decide (c ≤ (mrs.getD j default).1) = false) (h2 : ∀ j, r ≤ j → j < mrs.length → decide (c ≤ (mrs.getD j default).1) = true) (h3 : r < mrs.length → (mrs.getD r default).1 ≠ c) : opT c = none := by
  unfold opT
  rw [List.find?_eq_none]
  intro x hx
  obtain ⟨j, hj, rfl⟩ := List.mem_iff_getElem.1 hx
  have e : mrs.getD j default = mrs[j] := by simp [List.getD, hj]
  rcases Nat.lt_or_ge j r with hjr | hjr
  · have := h1 j hjr
    rw [e] at this
    simp at this ⊢
    omega
  · have h4 := rise_le mrs mrs_rise r j hjr hj
    have h5 := h2 r (Nat.le_refl _) (by omega)
    have h6 := h3 (by omega)
    rw [e] at h4
    simp only [decide_eq_true_eq] at h5 ⊢
    omega
theorem find_ (fr : Bool) (c : Int) (h : Heap) {K : PV → Heap → Prop} (k : oneK K h (opT c)) :
    CanP Try.prog 47 [.list fr 2 mrs.length (mrs.flatMap sp), .int .i64 c] h K := by
  refine e47 rfl ?_
  try simp only [c47, r47_0, r47_1, r47_2, r47_3, r47_4, old_sp, or_false, false_or, Bool.and_self, Bool.and_true, Bool.true_and, Bool.and_false, Bool.false_and, Bool.not_not, Int.cast_ofNat_Int, beq_self_eq_true, Heap.set_same, Heap.set_set, Heap.kill_kset, Int.toNat_natCast, Int.natCast_nonneg, Int.ofNat_lt, Int.ofNat_le, Int.natCast_inj, pmC, pmE, pmS, pmV, pmK, pmQ, pmL, pmX, pmF, pmO, pmA, pmR, pmW, pmB, Option.isSome_some, ft, olds_ints, olds_bools, ↓reduceIte, Nat.reduceEqDiff, reduceCtorEq, Nat.reduceAdd, Nat.reduceMul, Nat.reduceLeDiff, Nat.reduceLT, Int.reduceLE, Int.reduceLT, Int.reduceEq, Int.reduceToNat, Nat.zero_mul, Nat.zero_add, Nat.mul_one, ne_eq, not_false_eq_true, not_true_eq_false, true_and, and_true, decide_true, decide_false, Bool.not_true, Bool.not_false, Bool.false_eq_true, and_self, Nat.add_zero]
  intro b hb
  have hbk : ∀ h1 : Heap, h1 = h.set b [PV.int .i64 0, .int .i64 0] → h.le h1 := fun h1 e => by rw [e]; exact Heap.le_set (Heap.le_refl _) hb
  refine Search _ _ [.fptr false [.list false 2 mrs.length (mrs.flatMap sp)] 0, .fptr false [.int .i64 c] 0] (by simp [olds, PV.old, old_sp]) mrs.length (by decide) (fun i => decide (c ≤ (mrs.getD i default).1)) (fun i j hij hj q => ?_) _ (fun i hi h1 K k => find1 false false false c i hi h1 k) fun r hr h1 h2 => ?_
  · have := rise_le mrs mrs_rise i j hij hj
    simp only [decide_eq_true_eq] at q ⊢
    omega
  rcases Nat.lt_or_ge r mrs.length with hlt | hge
  · have hx := (sp_at mrs hlt).1
    have hy := (sp_at mrs hlt).2
    have hle : r * 2 + 2 ≤ (mrs.flatMap sp).length := by rw [flat_length sp 2 sp_len]; omega
    have hne : ¬ r = mrs.length := by omega
    by_cases q : (mrs.getD r default).1 = c
    · rw [opT_some hlt h1 q] at k
      have hat := flat_at sp 2 sp_len mrs hlt
      generalize mrs.getD r default = p at *
      rw [show sp p = [.int .i64 p.1, .int .i64 p.2] from rfl] at hat
      try simp only [hx, hy, hne, hlt, hle, q, hat, or_false, false_or, Bool.and_self, Bool.and_true, Bool.true_and, Bool.and_false, Bool.false_and, Bool.not_not, Int.cast_ofNat_Int, beq_self_eq_true, Heap.set_same, Heap.set_set, Heap.kill_kset, Int.toNat_natCast, Int.natCast_nonneg, Int.ofNat_lt, Int.ofNat_le, Int.natCast_inj, pmC, pmE, pmS, pmV, pmK, pmQ, pmL, pmX, pmF, pmO, pmA, pmR, pmW, pmB, Option.isSome_some, ft, olds_ints, olds_bools, ↓reduceIte, Nat.reduceEqDiff, reduceCtorEq, Nat.reduceAdd, Nat.reduceMul, Nat.reduceLeDiff, Nat.reduceLT, Int.reduceLE, Int.reduceLT, Int.reduceEq, Int.reduceToNat, Nat.zero_mul, Nat.zero_add, Nat.mul_one, ne_eq, not_false_eq_true, not_true_eq_false, true_and, and_true, decide_true, decide_false, Bool.not_true, Bool.not_false, Bool.false_eq_true, and_self, Nat.add_zero]
      exact finK_le (Heap.le_set (Heap.le_refl _) hb) (by simpa [oneK, q] using k)
    · rw [opT_none h1 h2 (fun _ => q)] at k
      try simp only [hx, hy, hne, hlt, hle, q, or_false, false_or, Bool.and_self, Bool.and_true, Bool.true_and, Bool.and_false, Bool.false_and, Bool.not_not, Int.cast_ofNat_Int, beq_self_eq_true, Heap.set_same, Heap.set_set, Heap.kill_kset, Int.toNat_natCast, Int.natCast_nonneg, Int.ofNat_lt, Int.ofNat_le, Int.natCast_inj, pmC, pmE, pmS, pmV, pmK, pmQ, pmL, pmX, pmF, pmO, pmA, pmR, pmW, pmB, Option.isSome_some, ft, olds_ints, olds_bools, ↓reduceIte, Nat.reduceEqDiff, reduceCtorEq, Nat.reduceAdd, Nat.reduceMul, Nat.reduceLeDiff, Nat.reduceLT, Int.reduceLE, Int.reduceLT, Int.reduceEq, Int.reduceToNat, Nat.zero_mul, Nat.zero_add, Nat.mul_one, ne_eq, not_false_eq_true, not_true_eq_false, true_and, and_true, decide_true, decide_false, Bool.not_true, Bool.not_false, Bool.false_eq_true, and_self, Nat.add_zero]
      exact finK_le (Heap.le_set (Heap.le_refl _) hb) k
  · have e : r = mrs.length := by omega
    rw [opT_none h1 h2 (fun hl => by omega)] at k
    subst e
    try simp only [or_false, false_or, Bool.and_self, Bool.and_true, Bool.true_and, Bool.and_false, Bool.false_and, Bool.not_not, Int.cast_ofNat_Int, beq_self_eq_true, Heap.set_same, Heap.set_set, Heap.kill_kset, Int.toNat_natCast, Int.natCast_nonneg, Int.ofNat_lt, Int.ofNat_le, Int.natCast_inj, pmC, pmE, pmS, pmV, pmK, pmQ, pmL, pmX, pmF, pmO, pmA, pmR, pmW, pmB, Option.isSome_some, ft, olds_ints, olds_bools, ↓reduceIte, Nat.reduceEqDiff, reduceCtorEq, Nat.reduceAdd, Nat.reduceMul, Nat.reduceLeDiff, Nat.reduceLT, Int.reduceLE, Int.reduceLT, Int.reduceEq, Int.reduceToNat, Nat.zero_mul, Nat.zero_add, Nat.mul_one, ne_eq, not_false_eq_true, not_true_eq_false, true_and, and_true, decide_true, decide_false, Bool.not_true, Bool.not_false, Bool.false_eq_true, and_self, Nat.add_zero]
    exact finK_le (Heap.le_set (Heap.le_refl _) hb) k
theorem back_ (fr : Bool) (c : Int) (h : Heap) {K : PV → Heap → Prop} (k : oneK K h (clT c)) :
    CanP Try.prog 48 [.list fr 2 mrs.length (mrs.flatMap sp), .int .i64 c] h K := by
  refine e48 rfl ?_
  try simp only [c48, r48_0, r48_1, r48_2, r48_3, r48_4, r48_5, r48_6, r48_7, old_sp, or_false, false_or, Bool.and_self, Bool.and_true, Bool.true_and, Bool.and_false, Bool.false_and, Bool.not_not, Int.cast_ofNat_Int, beq_self_eq_true, Heap.set_same, Heap.set_set, Heap.kill_kset, Int.toNat_natCast, Int.natCast_nonneg, Int.ofNat_lt, Int.ofNat_le, Int.natCast_inj, pmC, pmE, pmS, pmV, pmK, pmQ, pmL, pmX, pmF, pmO, pmA, pmR, pmW, pmB, Option.isSome_some, ft, olds_ints, olds_bools, ↓reduceIte, Nat.reduceEqDiff, reduceCtorEq, Nat.reduceAdd, Nat.reduceMul, Nat.reduceLeDiff, Nat.reduceLT, Int.reduceLE, Int.reduceLT, Int.reduceEq, Int.reduceToNat, Nat.zero_mul, Nat.zero_add, Nat.mul_one, ne_eq, not_false_eq_true, not_true_eq_false, true_and, and_true, decide_true, decide_false, Bool.not_true, Bool.not_false, Bool.false_eq_true, and_self, Nat.add_zero]
  intro b hb
  refine pwp_up mrs.length (fun i σ h' => h' = h.set b [PV.int .i64 0, .int .i64 0] ∧ σ 1 = .int .i64 c ∧ σ 4 = .ptr b 0 ∧ σ 8 = .list false 2 mrs.length (mrs.flatMap sp) ∧ σ 9 = .int .i64 mrs.length ∧ σ 10 = .int .i64 i ∧ clT c = (mrs.drop i).find? fun p => decide (p.2 = c)) ?_ ?_
  · exact ⟨rfl, rfl, rfl, rfl, rfl, rfl, rfl⟩
  rintro i σ h' K' hi ⟨rfl, s1, s4, s8, s9, s10, hf⟩ next
  rcases Nat.lt_or_ge i mrs.length with hlt | hge
  · have hml : mrs.length ≤ 1000 := by decide
    have hw : IntKind.i64.wrap ((i : Int) + 1) = (i : Int) + 1 := wrap_in (by omega) (by omega)
    have hle : i * 2 + 2 ≤ (mrs.flatMap sp).length := by rw [flat_length sp 2 sp_len]; omega
    have hat := flat_at sp 2 sp_len mrs hlt
    rw [drop_getD mrs (by omega), List.find?_cons] at hf
    generalize mrs.getD i default = p at *
    rw [show sp p = [.int .i64 p.1, .int .i64 p.2] from rfl] at hat
    by_cases q : p.2 = c
    · rw [show decide (p.2 = c) = true by simp [q]] at hf
      rw [hf] at k
      try simp only [s1, s4, s8, s9, s10, hlt, hle, hat, or_false, false_or, Bool.and_self, Bool.and_true, Bool.true_and, Bool.and_false, Bool.false_and, Bool.not_not, Int.cast_ofNat_Int, beq_self_eq_true, Heap.set_same, Heap.set_set, Heap.kill_kset, Int.toNat_natCast, Int.natCast_nonneg, Int.ofNat_lt, Int.ofNat_le, Int.natCast_inj, pmC, pmE, pmS, pmV, pmK, pmQ, pmL, pmX, pmF, pmO, pmA, pmR, pmW, pmB, Option.isSome_some, ft, olds_ints, olds_bools, ↓reduceIte, Nat.reduceEqDiff, reduceCtorEq, Nat.reduceAdd, Nat.reduceMul, Nat.reduceLeDiff, Nat.reduceLT, Int.reduceLE, Int.reduceLT, Int.reduceEq, Int.reduceToNat, Nat.zero_mul, Nat.zero_add, Nat.mul_one, ne_eq, not_false_eq_true, not_true_eq_false, true_and, and_true, decide_true, decide_false, Bool.not_true, Bool.not_false, Bool.false_eq_true, and_self, Nat.add_zero]
      intro b2 hb2
      rw [Heap.kill_none hb2]
      try simp only [q, s4, or_false, false_or, Bool.and_self, Bool.and_true, Bool.true_and, Bool.and_false, Bool.false_and, Bool.not_not, Int.cast_ofNat_Int, beq_self_eq_true, Heap.set_same, Heap.set_set, Heap.kill_kset, Int.toNat_natCast, Int.natCast_nonneg, Int.ofNat_lt, Int.ofNat_le, Int.natCast_inj, pmC, pmE, pmS, pmV, pmK, pmQ, pmL, pmX, pmF, pmO, pmA, pmR, pmW, pmB, Option.isSome_some, ft, olds_ints, olds_bools, ↓reduceIte, Nat.reduceEqDiff, reduceCtorEq, Nat.reduceAdd, Nat.reduceMul, Nat.reduceLeDiff, Nat.reduceLT, Int.reduceLE, Int.reduceLT, Int.reduceEq, Int.reduceToNat, Nat.zero_mul, Nat.zero_add, Nat.mul_one, ne_eq, not_false_eq_true, not_true_eq_false, true_and, and_true, decide_true, decide_false, Bool.not_true, Bool.not_false, Bool.false_eq_true, and_self, Nat.add_zero]
      exact finK_le (Heap.le_set (Heap.le_refl _) hb) (by simpa [oneK, q] using k)
    · rw [show decide (p.2 = c) = false by simp [q]] at hf
      try simp only [s1, s4, s8, s9, s10, hlt, hle, hat, or_false, false_or, Bool.and_self, Bool.and_true, Bool.true_and, Bool.and_false, Bool.false_and, Bool.not_not, Int.cast_ofNat_Int, beq_self_eq_true, Heap.set_same, Heap.set_set, Heap.kill_kset, Int.toNat_natCast, Int.natCast_nonneg, Int.ofNat_lt, Int.ofNat_le, Int.natCast_inj, pmC, pmE, pmS, pmV, pmK, pmQ, pmL, pmX, pmF, pmO, pmA, pmR, pmW, pmB, Option.isSome_some, ft, olds_ints, olds_bools, ↓reduceIte, Nat.reduceEqDiff, reduceCtorEq, Nat.reduceAdd, Nat.reduceMul, Nat.reduceLeDiff, Nat.reduceLT, Int.reduceLE, Int.reduceLT, Int.reduceEq, Int.reduceToNat, Nat.zero_mul, Nat.zero_add, Nat.mul_one, ne_eq, not_false_eq_true, not_true_eq_false, true_and, and_true, decide_true, decide_false, Bool.not_true, Bool.not_false, Bool.false_eq_true, and_self, Nat.add_zero]
      intro b2 hb2
      rw [Heap.kill_none hb2]
      try simp only [q, s10, hw, or_false, false_or, Bool.and_self, Bool.and_true, Bool.true_and, Bool.and_false, Bool.false_and, Bool.not_not, Int.cast_ofNat_Int, beq_self_eq_true, Heap.set_same, Heap.set_set, Heap.kill_kset, Int.toNat_natCast, Int.natCast_nonneg, Int.ofNat_lt, Int.ofNat_le, Int.natCast_inj, pmC, pmE, pmS, pmV, pmK, pmQ, pmL, pmX, pmF, pmO, pmA, pmR, pmW, pmB, Option.isSome_some, ft, olds_ints, olds_bools, ↓reduceIte, Nat.reduceEqDiff, reduceCtorEq, Nat.reduceAdd, Nat.reduceMul, Nat.reduceLeDiff, Nat.reduceLT, Int.reduceLE, Int.reduceLT, Int.reduceEq, Int.reduceToNat, Nat.zero_mul, Nat.zero_add, Nat.mul_one, ne_eq, not_false_eq_true, not_true_eq_false, true_and, and_true, decide_true, decide_false, Bool.not_true, Bool.not_false, Bool.false_eq_true, and_self, Nat.add_zero]
      exact next hlt _ _ ⟨rfl, by simp [put, s1], by simp [put, s4], by simp [put, s8], by simp [put, s9], by simp [put], hf⟩
  · have e : i = mrs.length := by omega
    subst e
    have hnl := Nat.lt_irrefl mrs.length
    rw [List.drop_length] at hf
    rw [hf] at k
    try simp only [s4, s9, s10, hnl, or_false, false_or, Bool.and_self, Bool.and_true, Bool.true_and, Bool.and_false, Bool.false_and, Bool.not_not, Int.cast_ofNat_Int, beq_self_eq_true, Heap.set_same, Heap.set_set, Heap.kill_kset, Int.toNat_natCast, Int.natCast_nonneg, Int.ofNat_lt, Int.ofNat_le, Int.natCast_inj, pmC, pmE, pmS, pmV, pmK, pmQ, pmL, pmX, pmF, pmO, pmA, pmR, pmW, pmB, Option.isSome_some, ft, olds_ints, olds_bools, ↓reduceIte, Nat.reduceEqDiff, reduceCtorEq, Nat.reduceAdd, Nat.reduceMul, Nat.reduceLeDiff, Nat.reduceLT, Int.reduceLE, Int.reduceLT, Int.reduceEq, Int.reduceToNat, Nat.zero_mul, Nat.zero_add, Nat.mul_one, ne_eq, not_false_eq_true, not_true_eq_false, true_and, and_true, decide_true, decide_false, Bool.not_true, Bool.not_false, Bool.false_eq_true, and_self, Nat.add_zero]
    exact finK_le (Heap.le_set (Heap.le_refl _) hb) k
theorem Mirror (c : Int) (h : Heap) {K : PV → Heap → Prop} (k : K (.int .i64 (mirT c)) h) : CanP Try.prog 39 [.int .i64 c] h K := by
  refine e39 rfl ?_
  try simp only [c39, r39_0, r39_1, r39_2, r39_3, r39_4, r39_5, r39_6, r39_7, r39_8, or_false, false_or, Bool.and_self, Bool.and_true, Bool.true_and, Bool.and_false, Bool.false_and, Bool.not_not, Int.cast_ofNat_Int, beq_self_eq_true, Heap.set_same, Heap.set_set, Heap.kill_kset, Int.toNat_natCast, Int.natCast_nonneg, Int.ofNat_lt, Int.ofNat_le, Int.natCast_inj, pmC, pmE, pmS, pmV, pmK, pmQ, pmL, pmX, pmF, pmO, pmA, pmR, pmW, pmB, Option.isSome_some, ft, olds_ints, olds_bools, ↓reduceIte, Nat.reduceEqDiff, reduceCtorEq, Nat.reduceAdd, Nat.reduceMul, Nat.reduceLeDiff, Nat.reduceLT, Int.reduceLE, Int.reduceLT, Int.reduceEq, Int.reduceToNat, Nat.zero_mul, Nat.zero_add, Nat.mul_one, ne_eq, not_false_eq_true, not_true_eq_false, true_and, and_true, decide_true, decide_false, Bool.not_true, Bool.not_false, Bool.false_eq_true, and_self, Nat.add_zero]
  refine Mirrors _ ?_
  try simp only [or_false, false_or, Bool.and_self, Bool.and_true, Bool.true_and, Bool.and_false, Bool.false_and, Bool.not_not, Int.cast_ofNat_Int, beq_self_eq_true, Heap.set_same, Heap.set_set, Heap.kill_kset, Int.toNat_natCast, Int.natCast_nonneg, Int.ofNat_lt, Int.ofNat_le, Int.natCast_inj, pmC, pmE, pmS, pmV, pmK, pmQ, pmL, pmX, pmF, pmO, pmA, pmR, pmW, pmB, Option.isSome_some, ft, olds_ints, olds_bools, ↓reduceIte, Nat.reduceEqDiff, reduceCtorEq, Nat.reduceAdd, Nat.reduceMul, Nat.reduceLeDiff, Nat.reduceLT, Int.reduceLE, Int.reduceLT, Int.reduceEq, Int.reduceToNat, Nat.zero_mul, Nat.zero_add, Nat.mul_one, ne_eq, not_false_eq_true, not_true_eq_false, true_and, and_true, decide_true, decide_false, Bool.not_true, Bool.not_false, Bool.false_eq_true, and_self, Nat.add_zero]
  refine find_ true c _ ?_
  unfold mirT at k
  cases e1 : opT c with
  | some p =>
    rw [e1] at k
    simp only [oneK] at k ⊢
    try simp only [or_false, false_or, Bool.and_self, Bool.and_true, Bool.true_and, Bool.and_false, Bool.false_and, Bool.not_not, Int.cast_ofNat_Int, beq_self_eq_true, Heap.set_same, Heap.set_set, Heap.kill_kset, Int.toNat_natCast, Int.natCast_nonneg, Int.ofNat_lt, Int.ofNat_le, Int.natCast_inj, pmC, pmE, pmS, pmV, pmK, pmQ, pmL, pmX, pmF, pmO, pmA, pmR, pmW, pmB, Option.isSome_some, ft, olds_ints, olds_bools, ↓reduceIte, Nat.reduceEqDiff, reduceCtorEq, Nat.reduceAdd, Nat.reduceMul, Nat.reduceLeDiff, Nat.reduceLT, Int.reduceLE, Int.reduceLT, Int.reduceEq, Int.reduceToNat, Nat.zero_mul, Nat.zero_add, Nat.mul_one, ne_eq, not_false_eq_true, not_true_eq_false, true_and, and_true, decide_true, decide_false, Bool.not_true, Bool.not_false, Bool.false_eq_true, and_self, Nat.add_zero]
    intro b hb
    rw [Heap.kill_none hb]
    exact finK_le (Heap.le_refl _) k
  | none =>
    rw [e1] at k
    simp only [oneK] at k ⊢
    try simp only [or_false, false_or, Bool.and_self, Bool.and_true, Bool.true_and, Bool.and_false, Bool.false_and, Bool.not_not, Int.cast_ofNat_Int, beq_self_eq_true, Heap.set_same, Heap.set_set, Heap.kill_kset, Int.toNat_natCast, Int.natCast_nonneg, Int.ofNat_lt, Int.ofNat_le, Int.natCast_inj, pmC, pmE, pmS, pmV, pmK, pmQ, pmL, pmX, pmF, pmO, pmA, pmR, pmW, pmB, Option.isSome_some, ft, olds_ints, olds_bools, ↓reduceIte, Nat.reduceEqDiff, reduceCtorEq, Nat.reduceAdd, Nat.reduceMul, Nat.reduceLeDiff, Nat.reduceLT, Int.reduceLE, Int.reduceLT, Int.reduceEq, Int.reduceToNat, Nat.zero_mul, Nat.zero_add, Nat.mul_one, ne_eq, not_false_eq_true, not_true_eq_false, true_and, and_true, decide_true, decide_false, Bool.not_true, Bool.not_false, Bool.false_eq_true, and_self, Nat.add_zero]
    intro b hb
    rw [Heap.kill_none hb]
    refine back_ true c _ ?_
    cases e2 : clT c with
    | some p =>
      rw [e2] at k
      simp only [oneK] at k ⊢
      try simp only [or_false, false_or, Bool.and_self, Bool.and_true, Bool.true_and, Bool.and_false, Bool.false_and, Bool.not_not, Int.cast_ofNat_Int, beq_self_eq_true, Heap.set_same, Heap.set_set, Heap.kill_kset, Int.toNat_natCast, Int.natCast_nonneg, Int.ofNat_lt, Int.ofNat_le, Int.natCast_inj, pmC, pmE, pmS, pmV, pmK, pmQ, pmL, pmX, pmF, pmO, pmA, pmR, pmW, pmB, Option.isSome_some, ft, olds_ints, olds_bools, ↓reduceIte, Nat.reduceEqDiff, reduceCtorEq, Nat.reduceAdd, Nat.reduceMul, Nat.reduceLeDiff, Nat.reduceLT, Int.reduceLE, Int.reduceLT, Int.reduceEq, Int.reduceToNat, Nat.zero_mul, Nat.zero_add, Nat.mul_one, ne_eq, not_false_eq_true, not_true_eq_false, true_and, and_true, decide_true, decide_false, Bool.not_true, Bool.not_false, Bool.false_eq_true, and_self, Nat.add_zero]
      intro b hb
      rw [Heap.kill_none hb]
      exact finK_le (Heap.le_refl _) k
    | none =>
      rw [e2] at k
      simp only [oneK] at k ⊢
      try simp only [or_false, false_or, Bool.and_self, Bool.and_true, Bool.true_and, Bool.and_false, Bool.false_and, Bool.not_not, Int.cast_ofNat_Int, beq_self_eq_true, Heap.set_same, Heap.set_set, Heap.kill_kset, Int.toNat_natCast, Int.natCast_nonneg, Int.ofNat_lt, Int.ofNat_le, Int.natCast_inj, pmC, pmE, pmS, pmV, pmK, pmQ, pmL, pmX, pmF, pmO, pmA, pmR, pmW, pmB, Option.isSome_some, ft, olds_ints, olds_bools, ↓reduceIte, Nat.reduceEqDiff, reduceCtorEq, Nat.reduceAdd, Nat.reduceMul, Nat.reduceLeDiff, Nat.reduceLT, Int.reduceLE, Int.reduceLT, Int.reduceEq, Int.reduceToNat, Nat.zero_mul, Nat.zero_add, Nat.mul_one, ne_eq, not_false_eq_true, not_true_eq_false, true_and, and_true, decide_true, decide_false, Bool.not_true, Bool.not_false, Bool.false_eq_true, and_self, Nat.add_zero]
      intro b hb
      rw [Heap.kill_none hb]
      try simp only [or_false, false_or, Bool.and_self, Bool.and_true, Bool.true_and, Bool.and_false, Bool.false_and, Bool.not_not, Int.cast_ofNat_Int, beq_self_eq_true, Heap.set_same, Heap.set_set, Heap.kill_kset, Int.toNat_natCast, Int.natCast_nonneg, Int.ofNat_lt, Int.ofNat_le, Int.natCast_inj, pmC, pmE, pmS, pmV, pmK, pmQ, pmL, pmX, pmF, pmO, pmA, pmR, pmW, pmB, Option.isSome_some, ft, olds_ints, olds_bools, ↓reduceIte, Nat.reduceEqDiff, reduceCtorEq, Nat.reduceAdd, Nat.reduceMul, Nat.reduceLeDiff, Nat.reduceLT, Int.reduceLE, Int.reduceLT, Int.reduceEq, Int.reduceToNat, Nat.zero_mul, Nat.zero_add, Nat.mul_one, ne_eq, not_false_eq_true, not_true_eq_false, true_and, and_true, decide_true, decide_false, Bool.not_true, Bool.not_false, Bool.false_eq_true, and_self, Nat.add_zero]
      exact finK_le (Heap.le_refl _) k
/-- As the document has it. -/
def mirL : List (Int × Int) → Int → Int
  | [], c => c
  | p :: l, c => if p.1 = c then p.2 else if p.2 = c then p.1 else mirL l c
theorem mirL_skip : ∀ (l : List (Int × Int)) (c : Int), (∀ p ∈ l, p.1 ≠ c ∧ p.2 ≠ c) → mirL l c = c
  | [], c, _ => rfl
  | p :: l, c, h => by
    have h1 := h p List.mem_cons_self
    rw [mirL, if_neg h1.1, if_neg h1.2, mirL_skip l c fun q hq => h q (List.mem_cons_of_mem _ hq)]
theorem mirT_skip (c : Int) (h : ∀ p ∈ mrs, p.1 ≠ c ∧ p.2 ≠ c) : mirT c = c := by
  have e1 : opT c = none := by unfold opT; rw [List.find?_eq_none]; intro x hx; simpa using (h x hx).1
  have e2 : clT c = none := by unfold clT; rw [List.find?_eq_none]; intro x hx; simpa using (h x hx).2
  simp only [mirT, e1, e2]
theorem mir_all : mrs.all (fun p => decide (mirT p.1 = mirL mrs p.1) && decide (mirT p.2 = mirL mrs p.2) && decide (mirT (mirT p.1) = p.1) && decide (mirT (mirT p.2) = p.2)) = true := by kernel_rfl
theorem mir_cases (c : Int) : (mirT c = mirL mrs c ∧ mirT (mirT c) = c) := by
  by_cases h : ∃ p ∈ mrs, p.1 = c ∨ p.2 = c
  · obtain ⟨p, hp, hc⟩ := h
    have := List.all_eq_true.1 mir_all p hp
    simp only [Bool.and_eq_true, decide_eq_true_eq] at this
    rcases hc with rfl | rfl
    · exact ⟨this.1.1.1, this.1.2⟩
    · exact ⟨this.1.1.2, this.2⟩
  · have h' : ∀ p ∈ mrs, p.1 ≠ c ∧ p.2 ≠ c := fun p hp => ⟨fun e => h ⟨p, hp, .inl e⟩, fun e => h ⟨p, hp, .inr e⟩⟩
    have e := mirT_skip c h'
    exact ⟨by rw [e, mirL_skip mrs c h'], by rw [e, e]⟩
theorem MirrorR (c : Int) (h : Heap) {K : PV → Heap → Prop} (k : K (.int .i64 (mirT c)) h) : CanP Try.prog 28 [.int .i64 c] h K := by
  rw [(mir_cases c).1] at k
  refine e28 rfl ?_
  try simp only [c28, r28_0, r28_1, r28_2, r28_3, r28_4, r28_5, r28_6, r28_7, r28_8, r28_9, or_false, false_or, Bool.and_self, Bool.and_true, Bool.true_and, Bool.and_false, Bool.false_and, Bool.not_not, Int.cast_ofNat_Int, beq_self_eq_true, Heap.set_same, Heap.set_set, Heap.kill_kset, Int.toNat_natCast, Int.natCast_nonneg, Int.ofNat_lt, Int.ofNat_le, Int.natCast_inj, pmC, pmE, pmS, pmV, pmK, pmQ, pmL, pmX, pmF, pmO, pmA, pmR, pmW, pmB, Option.isSome_some, ft, olds_ints, olds_bools, ↓reduceIte, Nat.reduceEqDiff, reduceCtorEq, Nat.reduceAdd, Nat.reduceMul, Nat.reduceLeDiff, Nat.reduceLT, Int.reduceLE, Int.reduceLT, Int.reduceEq, Int.reduceToNat, Nat.zero_mul, Nat.zero_add, Nat.mul_one, ne_eq, not_false_eq_true, not_true_eq_false, true_and, and_true, decide_true, decide_false, Bool.not_true, Bool.not_false, Bool.false_eq_true, and_self, Nat.add_zero]
  refine Mirrors _ ?_
  try simp only [or_false, false_or, Bool.and_self, Bool.and_true, Bool.true_and, Bool.and_false, Bool.false_and, Bool.not_not, Int.cast_ofNat_Int, beq_self_eq_true, Heap.set_same, Heap.set_set, Heap.kill_kset, Int.toNat_natCast, Int.natCast_nonneg, Int.ofNat_lt, Int.ofNat_le, Int.natCast_inj, pmC, pmE, pmS, pmV, pmK, pmQ, pmL, pmX, pmF, pmO, pmA, pmR, pmW, pmB, Option.isSome_some, ft, olds_ints, olds_bools, ↓reduceIte, Nat.reduceEqDiff, reduceCtorEq, Nat.reduceAdd, Nat.reduceMul, Nat.reduceLeDiff, Nat.reduceLT, Int.reduceLE, Int.reduceLT, Int.reduceEq, Int.reduceToNat, Nat.zero_mul, Nat.zero_add, Nat.mul_one, ne_eq, not_false_eq_true, not_true_eq_false, true_and, and_true, decide_true, decide_false, Bool.not_true, Bool.not_false, Bool.false_eq_true, and_self, Nat.add_zero]
  refine pwp_up mrs.length (fun i σ h' => h' = h ∧ σ 0 = .int .i64 c ∧ σ 3 = .list true 2 mrs.length (mrs.flatMap sp) ∧ σ 4 = .int .i64 i ∧ mirL mrs c = mirL (mrs.drop i) c) ?_ ?_
  · exact ⟨rfl, rfl, rfl, rfl, rfl⟩
  rintro i σ h' K' hi ⟨rfl, s0, s3, s4, hf⟩ next
  rcases Nat.lt_or_ge i mrs.length with hlt | hge
  · have hml : mrs.length ≤ 1000 := by decide
    have hw : IntKind.i64.wrap ((i : Int) + 1) = (i : Int) + 1 := wrap_in (by omega) (by omega)
    have hle : i * 2 + 2 ≤ (mrs.flatMap sp).length := by rw [flat_length sp 2 sp_len]; omega
    have hx := (sp_at mrs hlt).1
    have hy := (sp_at mrs hlt).2
    rw [drop_getD mrs (by omega), mirL] at hf
    generalize mrs.getD i default = p at *
    by_cases q1 : p.1 = c
    · rw [hf, if_pos q1] at k
      try simp only [s0, s3, s4, hlt, hle, hx, hy, q1, or_false, false_or, Bool.and_self, Bool.and_true, Bool.true_and, Bool.and_false, Bool.false_and, Bool.not_not, Int.cast_ofNat_Int, beq_self_eq_true, Heap.set_same, Heap.set_set, Heap.kill_kset, Int.toNat_natCast, Int.natCast_nonneg, Int.ofNat_lt, Int.ofNat_le, Int.natCast_inj, pmC, pmE, pmS, pmV, pmK, pmQ, pmL, pmX, pmF, pmO, pmA, pmR, pmW, pmB, Option.isSome_some, ft, olds_ints, olds_bools, ↓reduceIte, Nat.reduceEqDiff, reduceCtorEq, Nat.reduceAdd, Nat.reduceMul, Nat.reduceLeDiff, Nat.reduceLT, Int.reduceLE, Int.reduceLT, Int.reduceEq, Int.reduceToNat, Nat.zero_mul, Nat.zero_add, Nat.mul_one, ne_eq, not_false_eq_true, not_true_eq_false, true_and, and_true, decide_true, decide_false, Bool.not_true, Bool.not_false, Bool.false_eq_true, and_self, Nat.add_zero]
      exact finK_le (Heap.le_refl _) k
    · by_cases q2 : p.2 = c
      · rw [hf, if_neg q1, if_pos q2] at k
        try simp only [s0, s3, s4, hlt, hle, hx, hy, q1, q2, or_false, false_or, Bool.and_self, Bool.and_true, Bool.true_and, Bool.and_false, Bool.false_and, Bool.not_not, Int.cast_ofNat_Int, beq_self_eq_true, Heap.set_same, Heap.set_set, Heap.kill_kset, Int.toNat_natCast, Int.natCast_nonneg, Int.ofNat_lt, Int.ofNat_le, Int.natCast_inj, pmC, pmE, pmS, pmV, pmK, pmQ, pmL, pmX, pmF, pmO, pmA, pmR, pmW, pmB, Option.isSome_some, ft, olds_ints, olds_bools, ↓reduceIte, Nat.reduceEqDiff, reduceCtorEq, Nat.reduceAdd, Nat.reduceMul, Nat.reduceLeDiff, Nat.reduceLT, Int.reduceLE, Int.reduceLT, Int.reduceEq, Int.reduceToNat, Nat.zero_mul, Nat.zero_add, Nat.mul_one, ne_eq, not_false_eq_true, not_true_eq_false, true_and, and_true, decide_true, decide_false, Bool.not_true, Bool.not_false, Bool.false_eq_true, and_self, Nat.add_zero]
        exact finK_le (Heap.le_refl _) k
      · rw [if_neg q1, if_neg q2] at hf
        try simp only [s0, s3, s4, hlt, hle, hx, hy, q1, q2, hw, or_false, false_or, Bool.and_self, Bool.and_true, Bool.true_and, Bool.and_false, Bool.false_and, Bool.not_not, Int.cast_ofNat_Int, beq_self_eq_true, Heap.set_same, Heap.set_set, Heap.kill_kset, Int.toNat_natCast, Int.natCast_nonneg, Int.ofNat_lt, Int.ofNat_le, Int.natCast_inj, pmC, pmE, pmS, pmV, pmK, pmQ, pmL, pmX, pmF, pmO, pmA, pmR, pmW, pmB, Option.isSome_some, ft, olds_ints, olds_bools, ↓reduceIte, Nat.reduceEqDiff, reduceCtorEq, Nat.reduceAdd, Nat.reduceMul, Nat.reduceLeDiff, Nat.reduceLT, Int.reduceLE, Int.reduceLT, Int.reduceEq, Int.reduceToNat, Nat.zero_mul, Nat.zero_add, Nat.mul_one, ne_eq, not_false_eq_true, not_true_eq_false, true_and, and_true, decide_true, decide_false, Bool.not_true, Bool.not_false, Bool.false_eq_true, and_self, Nat.add_zero]
        exact next hlt _ _ ⟨rfl, by simp [put, s0], by simp [put, s3], by simp [put], hf⟩
  · have e : i = mrs.length := by omega
    subst e
    have hnl := Nat.lt_irrefl mrs.length
    rw [List.drop_length] at hf
    rw [hf] at k
    try simp only [s0, s3, s4, hnl, or_false, false_or, Bool.and_self, Bool.and_true, Bool.true_and, Bool.and_false, Bool.false_and, Bool.not_not, Int.cast_ofNat_Int, beq_self_eq_true, Heap.set_same, Heap.set_set, Heap.kill_kset, Int.toNat_natCast, Int.natCast_nonneg, Int.ofNat_lt, Int.ofNat_le, Int.natCast_inj, pmC, pmE, pmS, pmV, pmK, pmQ, pmL, pmX, pmF, pmO, pmA, pmR, pmW, pmB, Option.isSome_some, ft, olds_ints, olds_bools, ↓reduceIte, Nat.reduceEqDiff, reduceCtorEq, Nat.reduceAdd, Nat.reduceMul, Nat.reduceLeDiff, Nat.reduceLT, Int.reduceLE, Int.reduceLT, Int.reduceEq, Int.reduceToNat, Nat.zero_mul, Nat.zero_add, Nat.mul_one, ne_eq, not_false_eq_true, not_true_eq_false, true_and, and_true, decide_true, decide_false, Bool.not_true, Bool.not_false, Bool.false_eq_true, and_self, Nat.add_zero]
    exact finK_le (Heap.le_refl _) k
end Go.Proofs.Ytjabiegaeflhjaa
