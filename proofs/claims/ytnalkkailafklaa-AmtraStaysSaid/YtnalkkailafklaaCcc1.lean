/-
  Combining classes: the package ccc (New, Of, Ordered, Places, Order).
  Conditions: none but those that each sentence tells.
-/
import Derived.Test.YtnalkkailafklaaTrie4
import Derived.Test.YtnalkkailafklaaRngC
import Derived.Test.YtnalkkailafklaaRef06
import Derived.Test.YtnalkkailafklaaStbInt
namespace Go.Proofs.Ytnalkkailafklaa
open Go.Pm
set_option maxRecDepth 100000
set_option linter.unusedSimpArgs false
set_option linter.unusedVariables false

def cccT (c : Int) : Int := getT crs 0 c
theorem cccT_eq (c : Int) : getR crs 0 c = cccT c := by
  unfold cccT getT
  split
  · rfl
  · rename_i h
    obtain ⟨m1, _⟩ := may_spec crs (-1) crs_ok
    refine getR_skip fun r hr => ?_
    obtain ⟨i, h1, h2⟩ := List.mem_iff_getElem.1 hr
    have := m1 i h1
    rw [List.getD, List.getElem?_eq_getElem h1, Option.getD_some, h2] at this
    omega
theorem ccc_in (c : Int) : 0 ≤ cccT c ∧ cccT c ≤ 255 := by
  have ok : crs.all (fun r => decide (0 ≤ r.2.2 ∧ r.2.2 ≤ 255)) = true := by kernel_rfl
  unfold cccT getT
  split
  · unfold getR
    cases hr : crs.find? (fun r => decide (r.1 ≤ c ∧ c ≤ r.2.1)) with
    | some r =>
      have := List.all_eq_true.1 ok _ (List.mem_of_find?_eq_some hr)
      simpa using this
    | none => simp
  · omega
/-- What tells classes: a call's, or nobody's. -/
def CO (v : PV) (f : Int → Int) : Prop := (∃ fr f1 F B, v = .fptr fr [tab f1 F B 0] 0 ∧ Tab crs 0 F B ∧ f = cccT) ∨ ((v = .nilp ∨ ∃ fr, v = .fptr fr [.nilp] 0) ∧ f = fun _ => 0)
theorem CO.old {v : PV} {f : Int → Int} (h : CO v f) : CO v.old f := by
  rcases h with ⟨fr, f1, F, B, rfl, a, b⟩ | ⟨rfl | ⟨fr, rfl⟩, e⟩
  · exact .inl ⟨false, false, F, B, by simp [PV.old, olds, old_tab], a, b⟩
  · exact .inr ⟨.inl rfl, e⟩
  · exact .inr ⟨.inr ⟨false, rfl⟩, e⟩
theorem CO.old2 {v : PV} {f : Int → Int} (h : CO v f) : v.old.old = v.old := by
  rcases h with ⟨fr, f1, F, B, rfl, a, b⟩ | ⟨rfl | ⟨fr, rfl⟩, e⟩
  · simp [PV.old, olds, old_tab]
  · rfl
  · rfl
theorem CO.flat {v : PV} {f : Int → Int} (h : CO v f) : Pm.flat v = some [v] := by
  rcases h with ⟨fr, f1, F, B, rfl, a, b⟩ | ⟨rfl | ⟨fr, rfl⟩, e⟩ <;> rfl
theorem CO.rng {v : PV} {f : Int → Int} (h : CO v f) (c : Int) : 0 ≤ f c ∧ f c ≤ 255 := by
  rcases h with ⟨fr, f1, F, B, rfl, a, rfl⟩ | ⟨_, rfl⟩
  · exact ccc_in c
  · show (0 : Int) ≤ 0 ∧ (0 : Int) ≤ 255
    omega
theorem cccNew (h : Heap) {K : PV → Heap → Prop} (k : ∀ v, CO v cccT → K v h) : CanP Try.prog 8 [] h K := by
  refine e8 rfl ?_
  try simp only [c8, r8_0, r8_1, r8_2, r8_3, r8_4, or_false, false_or, Bool.and_self, Bool.and_true, Bool.true_and, Bool.and_false, Bool.false_and, Bool.not_not, Int.cast_ofNat_Int, beq_self_eq_true, Heap.set_same, Heap.set_set, Heap.kill_kset, Int.toNat_natCast, Int.natCast_nonneg, Int.ofNat_lt, Int.ofNat_le, Int.natCast_inj, pmC, pmE, pmS, pmV, pmK, pmQ, pmL, pmX, pmF, pmO, pmA, pmR, pmW, pmB, Option.isSome_some, ft, olds_ints, olds_bools, ↓reduceIte, Nat.reduceEqDiff, reduceCtorEq, Nat.reduceAdd, Nat.reduceMul, Nat.reduceLeDiff, Nat.reduceLT, Int.reduceLE, Int.reduceLT, Int.reduceEq, Int.reduceToNat, Nat.zero_mul, Nat.zero_add, Nat.mul_one, ne_eq, not_false_eq_true, not_true_eq_false, true_and, and_true, decide_true, decide_false, Bool.not_true, Bool.not_false, Bool.false_eq_true, and_self, Nat.add_zero]
  refine Combining _ ?_
  try simp only [or_false, false_or, Bool.and_self, Bool.and_true, Bool.true_and, Bool.and_false, Bool.false_and, Bool.not_not, Int.cast_ofNat_Int, beq_self_eq_true, Heap.set_same, Heap.set_set, Heap.kill_kset, Int.toNat_natCast, Int.natCast_nonneg, Int.ofNat_lt, Int.ofNat_le, Int.natCast_inj, pmC, pmE, pmS, pmV, pmK, pmQ, pmL, pmX, pmF, pmO, pmA, pmR, pmW, pmB, Option.isSome_some, ft, olds_ints, olds_bools, ↓reduceIte, Nat.reduceEqDiff, reduceCtorEq, Nat.reduceAdd, Nat.reduceMul, Nat.reduceLeDiff, Nat.reduceLT, Int.reduceLE, Int.reduceLT, Int.reduceEq, Int.reduceToNat, Nat.zero_mul, Nat.zero_add, Nat.mul_one, ne_eq, not_false_eq_true, not_true_eq_false, true_and, and_true, decide_true, decide_false, Bool.not_true, Bool.not_false, Bool.false_eq_true, and_self, Nat.add_zero]
  refine Build _ _ crs_ok (by decide) _ _ fun F B T => ?_
  try simp only [tab, or_false, false_or, Bool.and_self, Bool.and_true, Bool.true_and, Bool.and_false, Bool.false_and, Bool.not_not, Int.cast_ofNat_Int, beq_self_eq_true, Heap.set_same, Heap.set_set, Heap.kill_kset, Int.toNat_natCast, Int.natCast_nonneg, Int.ofNat_lt, Int.ofNat_le, Int.natCast_inj, pmC, pmE, pmS, pmV, pmK, pmQ, pmL, pmX, pmF, pmO, pmA, pmR, pmW, pmB, Option.isSome_some, ft, olds_ints, olds_bools, ↓reduceIte, Nat.reduceEqDiff, reduceCtorEq, Nat.reduceAdd, Nat.reduceMul, Nat.reduceLeDiff, Nat.reduceLT, Int.reduceLE, Int.reduceLT, Int.reduceEq, Int.reduceToNat, Nat.zero_mul, Nat.zero_add, Nat.mul_one, ne_eq, not_false_eq_true, not_true_eq_false, true_and, and_true, decide_true, decide_false, Bool.not_true, Bool.not_false, Bool.false_eq_true, and_self, Nat.add_zero]
  exact finK_le (Heap.le_refl _) (k _ (.inl ⟨true, true, F, B, rfl, T, rfl⟩))
theorem Of (v : PV) (f : Int → Int) (hv : CO v f) (c : Int) (h : Heap) {K : PV → Heap → Prop} (k : K (.int .i64 (f c)) h) : CanP Try.prog 40 [v, .int .i64 c] h K := by
  refine e40 rfl ?_
  rcases hv with ⟨fr, f1, F, B, rfl, a, rfl⟩ | ⟨rfl | ⟨fr, rfl⟩, rfl⟩
  · have e : PV.old (.fptr fr [tab f1 F B 0] 0) = .fptr false [tab false F B 0] 0 := by simp [PV.old, olds, old_tab]
    try simp only [c40, r40_0, r40_1, r40_2, r40_3, e, or_false, false_or, Bool.and_self, Bool.and_true, Bool.true_and, Bool.and_false, Bool.false_and, Bool.not_not, Int.cast_ofNat_Int, beq_self_eq_true, Heap.set_same, Heap.set_set, Heap.kill_kset, Int.toNat_natCast, Int.natCast_nonneg, Int.ofNat_lt, Int.ofNat_le, Int.natCast_inj, pmC, pmE, pmS, pmV, pmK, pmQ, pmL, pmX, pmF, pmO, pmA, pmR, pmW, pmB, Option.isSome_some, ft, olds_ints, olds_bools, ↓reduceIte, Nat.reduceEqDiff, reduceCtorEq, Nat.reduceAdd, Nat.reduceMul, Nat.reduceLeDiff, Nat.reduceLT, Int.reduceLE, Int.reduceLT, Int.reduceEq, Int.reduceToNat, Nat.zero_mul, Nat.zero_add, Nat.mul_one, ne_eq, not_false_eq_true, not_true_eq_false, true_and, and_true, decide_true, decide_false, Bool.not_true, Bool.not_false, Bool.false_eq_true, and_self, Nat.add_zero]
    try simp only [tab, or_false, false_or, Bool.and_self, Bool.and_true, Bool.true_and, Bool.and_false, Bool.false_and, Bool.not_not, Int.cast_ofNat_Int, beq_self_eq_true, Heap.set_same, Heap.set_set, Heap.kill_kset, Int.toNat_natCast, Int.natCast_nonneg, Int.ofNat_lt, Int.ofNat_le, Int.natCast_inj, pmC, pmE, pmS, pmV, pmK, pmQ, pmL, pmX, pmF, pmO, pmA, pmR, pmW, pmB, Option.isSome_some, ft, olds_ints, olds_bools, ↓reduceIte, Nat.reduceEqDiff, reduceCtorEq, Nat.reduceAdd, Nat.reduceMul, Nat.reduceLeDiff, Nat.reduceLT, Int.reduceLE, Int.reduceLT, Int.reduceEq, Int.reduceToNat, Nat.zero_mul, Nat.zero_add, Nat.mul_one, ne_eq, not_false_eq_true, not_true_eq_false, true_and, and_true, decide_true, decide_false, Bool.not_true, Bool.not_false, Bool.false_eq_true, and_self, Nat.add_zero]
    refine Get _ _ _ _ _ a _ _ ?_
    try simp only [or_false, false_or, Bool.and_self, Bool.and_true, Bool.true_and, Bool.and_false, Bool.false_and, Bool.not_not, Int.cast_ofNat_Int, beq_self_eq_true, Heap.set_same, Heap.set_set, Heap.kill_kset, Int.toNat_natCast, Int.natCast_nonneg, Int.ofNat_lt, Int.ofNat_le, Int.natCast_inj, pmC, pmE, pmS, pmV, pmK, pmQ, pmL, pmX, pmF, pmO, pmA, pmR, pmW, pmB, Option.isSome_some, ft, olds_ints, olds_bools, ↓reduceIte, Nat.reduceEqDiff, reduceCtorEq, Nat.reduceAdd, Nat.reduceMul, Nat.reduceLeDiff, Nat.reduceLT, Int.reduceLE, Int.reduceLT, Int.reduceEq, Int.reduceToNat, Nat.zero_mul, Nat.zero_add, Nat.mul_one, ne_eq, not_false_eq_true, not_true_eq_false, true_and, and_true, decide_true, decide_false, Bool.not_true, Bool.not_false, Bool.false_eq_true, and_self, Nat.add_zero]
    exact finK_le (Heap.le_refl _) k
  · try simp only [c40, r40_0, r40_1, r40_2, r40_3, or_false, false_or, Bool.and_self, Bool.and_true, Bool.true_and, Bool.and_false, Bool.false_and, Bool.not_not, Int.cast_ofNat_Int, beq_self_eq_true, Heap.set_same, Heap.set_set, Heap.kill_kset, Int.toNat_natCast, Int.natCast_nonneg, Int.ofNat_lt, Int.ofNat_le, Int.natCast_inj, pmC, pmE, pmS, pmV, pmK, pmQ, pmL, pmX, pmF, pmO, pmA, pmR, pmW, pmB, Option.isSome_some, ft, olds_ints, olds_bools, ↓reduceIte, Nat.reduceEqDiff, reduceCtorEq, Nat.reduceAdd, Nat.reduceMul, Nat.reduceLeDiff, Nat.reduceLT, Int.reduceLE, Int.reduceLT, Int.reduceEq, Int.reduceToNat, Nat.zero_mul, Nat.zero_add, Nat.mul_one, ne_eq, not_false_eq_true, not_true_eq_false, true_and, and_true, decide_true, decide_false, Bool.not_true, Bool.not_false, Bool.false_eq_true, and_self, Nat.add_zero]
    exact finK_le (Heap.le_refl _) k
  · try simp only [c40, r40_0, r40_1, r40_2, r40_3, or_false, false_or, Bool.and_self, Bool.and_true, Bool.true_and, Bool.and_false, Bool.false_and, Bool.not_not, Int.cast_ofNat_Int, beq_self_eq_true, Heap.set_same, Heap.set_set, Heap.kill_kset, Int.toNat_natCast, Int.natCast_nonneg, Int.ofNat_lt, Int.ofNat_le, Int.natCast_inj, pmC, pmE, pmS, pmV, pmK, pmQ, pmL, pmX, pmF, pmO, pmA, pmR, pmW, pmB, Option.isSome_some, ft, olds_ints, olds_bools, ↓reduceIte, Nat.reduceEqDiff, reduceCtorEq, Nat.reduceAdd, Nat.reduceMul, Nat.reduceLeDiff, Nat.reduceLT, Int.reduceLE, Int.reduceLT, Int.reduceEq, Int.reduceToNat, Nat.zero_mul, Nat.zero_add, Nat.mul_one, ne_eq, not_false_eq_true, not_true_eq_false, true_and, and_true, decide_true, decide_false, Bool.not_true, Bool.not_false, Bool.false_eq_true, and_self, Nat.add_zero]
    exact finK_le (Heap.le_refl _) k
def befT (f : Int → Int) (a b : Int) : Bool := decide (f b = 0) || decide (f a ≤ f b)
/-- Do marks stand in their order? -/
def ordB (f : Int → Int) : List Int → Bool
  | a :: b :: l => befT f a b && ordB f (b :: l)
  | _ => true
/-! ### What stands in each place -/
def rng (a b : Nat) : List Int := (List.range' a (b - a)).map Int.ofNat
theorem rng_len (a b : Nat) : (rng a b).length = b - a := by simp [rng]
theorem rng_succ {a b : Nat} (h : a ≤ b) : rng a (b + 1) = rng a b ++ [(b : Int)] := by
  unfold rng
  rw [show b + 1 - a = (b - a) + 1 by omega, List.range'_concat]
  simp; omega
theorem rng_cut {a b n : Nat} (h : a ≤ b) (h2 : b ≤ n) : rng a n = rng a b ++ rng b n := by
  unfold rng
  rw [show n - a = (b - a) + (n - b) by omega, ← List.range'_append_1, List.map_append]
  congr 2; congr 1; omega
theorem rng_self (a : Nat) : rng a a = [] := by simp [rng]
theorem rng_mem {a b : Nat} {x : Int} (h : x ∈ rng a b) : ∃ i : Nat, x = i ∧ a ≤ i ∧ i < b := by
  unfold rng at h
  obtain ⟨i, hi, rfl⟩ := List.mem_map.1 h
  have := List.mem_range'_1.1 hi
  exact ⟨i, rfl, by omega, by omega⟩
/-- A place's class. -/
def keyP (f : Int → Int) (X : List Int) (p : Int) : Int := f (X.getD p.toNat default)
/-- What lies fixed ahead of a place, and where what may move begins. -/
def fixP (f : Int → Int) (X : List Int) : Nat → List Int × Nat
  | 0 => ([], 0)
  | i + 1 => if f (X.getD i default) = 0 then ((fixP f X i).1 ++ srt (keyP f X) (rng (fixP f X i).2 i) ++ [(i : Int)], i + 1) else fixP f X i
theorem fixP_len (f : Int → Int) (X : List Int) : ∀ i, (fixP f X i).1.length = (fixP f X i).2 ∧ (fixP f X i).2 ≤ i
  | 0 => ⟨rfl, Nat.le_refl _⟩
  | i + 1 => by
    have ih := fixP_len f X i
    unfold fixP
    split
    · simp [srt_len, rng_len]; omega
    · omega
theorem fixP_mem (f : Int → Int) (X : List Int) : ∀ i, ∀ x ∈ (fixP f X i).1, 0 ≤ x ∧ x < i
  | 0, x, h => by simp [fixP] at h
  | i + 1, x, h => by
    have ih := fixP_mem f X i
    have hl := fixP_len f X i
    unfold fixP at h
    split at h
    · simp only [List.mem_append, List.mem_singleton] at h
      rcases h with (h | h) | h
      · have := ih x h; omega
      · obtain ⟨j, rfl, _, _⟩ := rng_mem ((srt_fil _).mem.2 h); omega
      · omega
    · have := ih x h; omega
def placeT (f : Int → Int) (X : List Int) : List Int := (fixP f X X.length).1 ++ srt (keyP f X) (rng (fixP f X X.length).2 X.length)
theorem placeT_len (f : Int → Int) (X : List Int) : (placeT f X).length = X.length := by
  have := fixP_len f X X.length
  unfold placeT; simp [srt_len, rng_len]; omega
theorem placeT_mem (f : Int → Int) (X : List Int) : ∀ x ∈ placeT f X, 0 ≤ x ∧ x < X.length := fun x h => by
  unfold placeT at h
  rcases List.mem_append.1 h with h | h
  · exact fixP_mem f X _ x h
  · obtain ⟨j, rfl, _, _⟩ := rng_mem ((srt_fil _).mem.2 h); omega
theorem cmpP (v : PV) (f : Int → Int) (hv : CO v f) (hv2 : v.old = v) (f1 f2 : Bool) (X : List Int) (hl : X.length ≤ 1000000) : CmpIn 39 [] [.fptr false [v] 0, .fptr false [.list false 1 X.length (X.map (.int .i64))] 0] (fun a b => keyP f X a - keyP f X b) (keyP f X) (fun a => 0 ≤ a ∧ a < X.length) :=
  ⟨rfl, by simp only [olds, PV.old, hv2, olds_ints], fun x y h K okx oky k => by
    refine e39 rfl ?_
    have hx := getm (.int .i64) X (i := x.toNat) (by omega)
    have hy := getm (.int .i64) X (i := y.toNat) (by omega)
    have r1 := hv.rng (X.getD x.toNat default)
    have r2 := hv.rng (X.getD y.toNat default)
    unfold keyP at k
    generalize X.getD x.toNat default = p at *
    generalize X.getD y.toNat default = q at *
    have hw : IntKind.i64.wrap (f p - f q) = f p - f q := wrap_in (by omega) (by omega)
    have x0 := okx.1
    have x1 := okx.2
    have y0 := oky.1
    have y1 := oky.2
    try simp only [c39, r39_0, r39_1, hv2, hx, hy, x0, x1, y0, y1, or_false, false_or, Bool.and_self, Bool.and_true, Bool.true_and, Bool.and_false, Bool.false_and, Bool.not_not, Int.cast_ofNat_Int, beq_self_eq_true, Heap.set_same, Heap.set_set, Heap.kill_kset, Int.toNat_natCast, Int.natCast_nonneg, Int.ofNat_lt, Int.ofNat_le, Int.natCast_inj, pmC, pmE, pmS, pmV, pmK, pmQ, pmL, pmX, pmF, pmO, pmA, pmR, pmW, pmB, Option.isSome_some, ft, olds_ints, olds_bools, ↓reduceIte, Nat.reduceEqDiff, reduceCtorEq, Nat.reduceAdd, Nat.reduceMul, Nat.reduceLeDiff, Nat.reduceLT, Int.reduceLE, Int.reduceLT, Int.reduceEq, Int.reduceToNat, Nat.zero_mul, Nat.zero_add, Nat.mul_one, ne_eq, not_false_eq_true, not_true_eq_false, true_and, and_true, decide_true, decide_false, Bool.not_true, Bool.not_false, Bool.false_eq_true, and_self, Nat.add_zero]
    refine ⟨_, Of _ _ hv _ _ ⟨rfl, rfl⟩, ?_⟩
    try simp only [hy, y0, y1, or_false, false_or, Bool.and_self, Bool.and_true, Bool.true_and, Bool.and_false, Bool.false_and, Bool.not_not, Int.cast_ofNat_Int, beq_self_eq_true, Heap.set_same, Heap.set_set, Heap.kill_kset, Int.toNat_natCast, Int.natCast_nonneg, Int.ofNat_lt, Int.ofNat_le, Int.natCast_inj, pmC, pmE, pmS, pmV, pmK, pmQ, pmL, pmX, pmF, pmO, pmA, pmR, pmW, pmB, Option.isSome_some, ft, olds_ints, olds_bools, ↓reduceIte, Nat.reduceEqDiff, reduceCtorEq, Nat.reduceAdd, Nat.reduceMul, Nat.reduceLeDiff, Nat.reduceLT, Int.reduceLE, Int.reduceLT, Int.reduceEq, Int.reduceToNat, Nat.zero_mul, Nat.zero_add, Nat.mul_one, ne_eq, not_false_eq_true, not_true_eq_false, true_and, and_true, decide_true, decide_false, Bool.not_true, Bool.not_false, Bool.false_eq_true, and_self, Nat.add_zero]
    refine ⟨_, Of _ _ hv _ _ ⟨rfl, rfl⟩, ?_⟩
    try simp only [hw, or_false, false_or, Bool.and_self, Bool.and_true, Bool.true_and, Bool.and_false, Bool.false_and, Bool.not_not, Int.cast_ofNat_Int, beq_self_eq_true, Heap.set_same, Heap.set_set, Heap.kill_kset, Int.toNat_natCast, Int.natCast_nonneg, Int.ofNat_lt, Int.ofNat_le, Int.natCast_inj, pmC, pmE, pmS, pmV, pmK, pmQ, pmL, pmX, pmF, pmO, pmA, pmR, pmW, pmB, Option.isSome_some, ft, olds_ints, olds_bools, ↓reduceIte, Nat.reduceEqDiff, reduceCtorEq, Nat.reduceAdd, Nat.reduceMul, Nat.reduceLeDiff, Nat.reduceLT, Int.reduceLE, Int.reduceLT, Int.reduceEq, Int.reduceToNat, Nat.zero_mul, Nat.zero_add, Nat.mul_one, ne_eq, not_false_eq_true, not_true_eq_false, true_and, and_true, decide_true, decide_false, Bool.not_true, Bool.not_false, Bool.false_eq_true, and_self, Nat.add_zero]
    exact finK_le (Heap.le_refl _) k, fun x y _ _ => ⟨fun h => by omega, fun h => by omega⟩⟩
theorem srtP (v : PV) (f : Int → Int) (hv : CO v f) (hv2 : v.old = v) (X : List Int) (hl : X.length ≤ 1000000) (b : Nat) (P A Q : List Int) (lo n : Nat) (hlo : P.length = lo) (hN : A.length = n) (hn : n ≤ X.length) (okA : ∀ a ∈ A, 0 ≤ a ∧ a < X.length) (h : Heap) (hb : h.f b = some (rowC en1 (P.map (.int .i64)) (Q.map (.int .i64)) A))
    {K : PV → Heap → Prop} (k : K (.tup []) (h.set b (rowC en1 (P.map (.int .i64)) (Q.map (.int .i64)) (srt (keyP f X) A)))) :
    CanP Try.prog 38 [.buf b 1 lo n, .fn 39 [] [.fptr false [v] 0, .fptr false [.list false 1 X.length (X.map (.int .i64))] 0]] h K := by
  have hl2 : (P.map (PV.int .i64)).length = lo := by simp [hlo]
  subst hl2
  exact SortStableIn (P.map (.int .i64)) (Q.map (.int .i64)) b _ [] _ [] [.fptr false [v] 0, .fptr false [.list false 1 X.length (X.map (.int .i64))] 0] rfl (by simp only [olds, PV.old, hv2, olds_ints]) _ (keyP f X) _ (cmpP v f hv hv2 false false X hl) A n hN okA (by omega) h hb k
/-- A part put in order. -/
theorem Places1 (v : PV) (f : Int → Int) (hv : CO v f) (hv2 : v.old = v) (X : List Int) (hl : X.length ≤ 1000000) (b : Nat) (P A Q : List Int) (lo i : Nat) (hlo : lo = P.length) (hi : i = P.length + A.length) (hn : P.length + A.length + Q.length = X.length) (okA : ∀ a ∈ A, 0 ≤ a ∧ a < X.length) (h : Heap) (hb : h.f b = some ((P ++ A ++ Q).map (.int .i64)))
    {K : PV → Heap → Prop} (k : K (.tup []) (h.set b ((P ++ srt (keyP f X) A ++ Q).map (.int .i64)))) :
    CanP Try.prog 37 [.int .i64 lo, .int .i64 i, .fptr false [.buf b 1 0 X.length] 0, .fptr false [v] 0, .fptr false [.list false 1 X.length (X.map (.int .i64))] 0] h K := by
  refine e37 rfl ?_
  have e1 : ∀ l : List Int, l.map (PV.int .i64) = l.flatMap en1 := fun l => by
    induction l with
    | nil => rfl
    | cons x l ih => simp [en1] at ih ⊢; exact ih
  have rw1 : ∀ B : List Int, (P ++ B ++ Q).map (PV.int .i64) = rowC en1 (P.map (.int .i64)) (Q.map (.int .i64)) B := fun B => by simp [rowC, e1]
  by_cases hA : A = []
  · subst hA
    have hs : srt (keyP f X) [] = [] := rfl
    rw [hs, Heap.set_self hb] at k
    simp only [List.length_nil, Nat.add_zero] at hi
    have : i = lo := by omega
    subst this
    by_cases h0 : i = 0
    · subst h0
      have P0 : P = [] := List.length_eq_zero_iff.1 hlo.symm
      subst P0
      try simp only [c37, r37_0, hv2, slcB_00, or_false, false_or, Bool.and_self, Bool.and_true, Bool.true_and, Bool.and_false, Bool.false_and, Bool.not_not, Int.cast_ofNat_Int, beq_self_eq_true, Heap.set_same, Heap.set_set, Heap.kill_kset, Int.toNat_natCast, Int.natCast_nonneg, Int.ofNat_lt, Int.ofNat_le, Int.natCast_inj, pmC, pmE, pmS, pmV, pmK, pmQ, pmL, pmX, pmF, pmO, pmA, pmR, pmW, pmB, Option.isSome_some, ft, olds_ints, olds_bools, ↓reduceIte, Nat.reduceEqDiff, reduceCtorEq, Nat.reduceAdd, Nat.reduceMul, Nat.reduceLeDiff, Nat.reduceLT, Int.reduceLE, Int.reduceLT, Int.reduceEq, Int.reduceToNat, Nat.zero_mul, Nat.zero_add, Nat.mul_one, ne_eq, not_false_eq_true, not_true_eq_false, true_and, and_true, decide_true, decide_false, Bool.not_true, Bool.not_false, Bool.false_eq_true, and_self, Nat.add_zero]
      refine srtP v f hv hv2 X hl b [] [] Q 0 0 rfl rfl (by omega) (by simp) _ (by rw [hb, rw1]) ?_
      try simp only [or_false, false_or, Bool.and_self, Bool.and_true, Bool.true_and, Bool.and_false, Bool.false_and, Bool.not_not, Int.cast_ofNat_Int, beq_self_eq_true, Heap.set_same, Heap.set_set, Heap.kill_kset, Int.toNat_natCast, Int.natCast_nonneg, Int.ofNat_lt, Int.ofNat_le, Int.natCast_inj, pmC, pmE, pmS, pmV, pmK, pmQ, pmL, pmX, pmF, pmO, pmA, pmR, pmW, pmB, Option.isSome_some, ft, olds_ints, olds_bools, ↓reduceIte, Nat.reduceEqDiff, reduceCtorEq, Nat.reduceAdd, Nat.reduceMul, Nat.reduceLeDiff, Nat.reduceLT, Int.reduceLE, Int.reduceLT, Int.reduceEq, Int.reduceToNat, Nat.zero_mul, Nat.zero_add, Nat.mul_one, ne_eq, not_false_eq_true, not_true_eq_false, true_and, and_true, decide_true, decide_false, Bool.not_true, Bool.not_false, Bool.false_eq_true, and_self, Nat.add_zero]
      have e := Heap.set_self hb
      rw [rw1] at e
      rw [show srt (keyP f X) [] = [] from rfl]
      simp only [List.map_nil] at e
      rw [e]
      exact finK_rf k
    · try simp only [c37, r37_0, hv2, slcB_none (show 0 < i by omega) (show i ≤ X.length by omega), or_false, false_or, Bool.and_self, Bool.and_true, Bool.true_and, Bool.and_false, Bool.false_and, Bool.not_not, Int.cast_ofNat_Int, beq_self_eq_true, Heap.set_same, Heap.set_set, Heap.kill_kset, Int.toNat_natCast, Int.natCast_nonneg, Int.ofNat_lt, Int.ofNat_le, Int.natCast_inj, pmC, pmE, pmS, pmV, pmK, pmQ, pmL, pmX, pmF, pmO, pmA, pmR, pmW, pmB, Option.isSome_some, ft, olds_ints, olds_bools, ↓reduceIte, Nat.reduceEqDiff, reduceCtorEq, Nat.reduceAdd, Nat.reduceMul, Nat.reduceLeDiff, Nat.reduceLT, Int.reduceLE, Int.reduceLT, Int.reduceEq, Int.reduceToNat, Nat.zero_mul, Nat.zero_add, Nat.mul_one, ne_eq, not_false_eq_true, not_true_eq_false, true_and, and_true, decide_true, decide_false, Bool.not_true, Bool.not_false, Bool.false_eq_true, and_self, Nat.add_zero]
      refine SortNoneIn _ _ _ _ _ ?_
      try simp only [or_false, false_or, Bool.and_self, Bool.and_true, Bool.true_and, Bool.and_false, Bool.false_and, Bool.not_not, Int.cast_ofNat_Int, beq_self_eq_true, Heap.set_same, Heap.set_set, Heap.kill_kset, Int.toNat_natCast, Int.natCast_nonneg, Int.ofNat_lt, Int.ofNat_le, Int.natCast_inj, pmC, pmE, pmS, pmV, pmK, pmQ, pmL, pmX, pmF, pmO, pmA, pmR, pmW, pmB, Option.isSome_some, ft, olds_ints, olds_bools, ↓reduceIte, Nat.reduceEqDiff, reduceCtorEq, Nat.reduceAdd, Nat.reduceMul, Nat.reduceLeDiff, Nat.reduceLT, Int.reduceLE, Int.reduceLT, Int.reduceEq, Int.reduceToNat, Nat.zero_mul, Nat.zero_add, Nat.mul_one, ne_eq, not_false_eq_true, not_true_eq_false, true_and, and_true, decide_true, decide_false, Bool.not_true, Bool.not_false, Bool.false_eq_true, and_self, Nat.add_zero]
      exact finK_rf k
  · have lA : 0 < A.length := List.length_pos_iff.2 hA
    rw [rw1] at hb
    rw [rw1] at k
    by_cases h0 : lo = 0
    · subst h0
      have P0 : P = [] := List.length_eq_zero_iff.1 hlo.symm
      subst P0
      have hi' : i = A.length := by simpa using hi
      subst hi'
      try simp only [c37, r37_0, hv2, slcB_both0 (show A.length ≤ X.length by simp at hn; omega), or_false, false_or, Bool.and_self, Bool.and_true, Bool.true_and, Bool.and_false, Bool.false_and, Bool.not_not, Int.cast_ofNat_Int, beq_self_eq_true, Heap.set_same, Heap.set_set, Heap.kill_kset, Int.toNat_natCast, Int.natCast_nonneg, Int.ofNat_lt, Int.ofNat_le, Int.natCast_inj, pmC, pmE, pmS, pmV, pmK, pmQ, pmL, pmX, pmF, pmO, pmA, pmR, pmW, pmB, Option.isSome_some, ft, olds_ints, olds_bools, ↓reduceIte, Nat.reduceEqDiff, reduceCtorEq, Nat.reduceAdd, Nat.reduceMul, Nat.reduceLeDiff, Nat.reduceLT, Int.reduceLE, Int.reduceLT, Int.reduceEq, Int.reduceToNat, Nat.zero_mul, Nat.zero_add, Nat.mul_one, ne_eq, not_false_eq_true, not_true_eq_false, true_and, and_true, decide_true, decide_false, Bool.not_true, Bool.not_false, Bool.false_eq_true, and_self, Nat.add_zero]
      refine srtP v f hv hv2 X hl b [] A Q 0 A.length rfl rfl (by simp at hn; omega) okA _ hb ?_
      try simp only [or_false, false_or, Bool.and_self, Bool.and_true, Bool.true_and, Bool.and_false, Bool.false_and, Bool.not_not, Int.cast_ofNat_Int, beq_self_eq_true, Heap.set_same, Heap.set_set, Heap.kill_kset, Int.toNat_natCast, Int.natCast_nonneg, Int.ofNat_lt, Int.ofNat_le, Int.natCast_inj, pmC, pmE, pmS, pmV, pmK, pmQ, pmL, pmX, pmF, pmO, pmA, pmR, pmW, pmB, Option.isSome_some, ft, olds_ints, olds_bools, ↓reduceIte, Nat.reduceEqDiff, reduceCtorEq, Nat.reduceAdd, Nat.reduceMul, Nat.reduceLeDiff, Nat.reduceLT, Int.reduceLE, Int.reduceLT, Int.reduceEq, Int.reduceToNat, Nat.zero_mul, Nat.zero_add, Nat.mul_one, ne_eq, not_false_eq_true, not_true_eq_false, true_and, and_true, decide_true, decide_false, Bool.not_true, Bool.not_false, Bool.false_eq_true, and_self, Nat.add_zero]
      exact finK_rf k
    · try simp only [c37, r37_0, hv2, slcB_both (show 0 < lo by omega) (show lo < i by omega) (show i ≤ X.length by omega), or_false, false_or, Bool.and_self, Bool.and_true, Bool.true_and, Bool.and_false, Bool.false_and, Bool.not_not, Int.cast_ofNat_Int, beq_self_eq_true, Heap.set_same, Heap.set_set, Heap.kill_kset, Int.toNat_natCast, Int.natCast_nonneg, Int.ofNat_lt, Int.ofNat_le, Int.natCast_inj, pmC, pmE, pmS, pmV, pmK, pmQ, pmL, pmX, pmF, pmO, pmA, pmR, pmW, pmB, Option.isSome_some, ft, olds_ints, olds_bools, ↓reduceIte, Nat.reduceEqDiff, reduceCtorEq, Nat.reduceAdd, Nat.reduceMul, Nat.reduceLeDiff, Nat.reduceLT, Int.reduceLE, Int.reduceLT, Int.reduceEq, Int.reduceToNat, Nat.zero_mul, Nat.zero_add, Nat.mul_one, ne_eq, not_false_eq_true, not_true_eq_false, true_and, and_true, decide_true, decide_false, Bool.not_true, Bool.not_false, Bool.false_eq_true, and_self, Nat.add_zero]
      refine srtP v f hv hv2 X hl b P A Q _ _ (by omega) (by omega) (by omega) okA _ hb ?_
      try simp only [or_false, false_or, Bool.and_self, Bool.and_true, Bool.true_and, Bool.and_false, Bool.false_and, Bool.not_not, Int.cast_ofNat_Int, beq_self_eq_true, Heap.set_same, Heap.set_set, Heap.kill_kset, Int.toNat_natCast, Int.natCast_nonneg, Int.ofNat_lt, Int.ofNat_le, Int.natCast_inj, pmC, pmE, pmS, pmV, pmK, pmQ, pmL, pmX, pmF, pmO, pmA, pmR, pmW, pmB, Option.isSome_some, ft, olds_ints, olds_bools, ↓reduceIte, Nat.reduceEqDiff, reduceCtorEq, Nat.reduceAdd, Nat.reduceMul, Nat.reduceLeDiff, Nat.reduceLT, Int.reduceLE, Int.reduceLT, Int.reduceEq, Int.reduceToNat, Nat.zero_mul, Nat.zero_add, Nat.mul_one, ne_eq, not_false_eq_true, not_true_eq_false, true_and, and_true, decide_true, decide_false, Bool.not_true, Bool.not_false, Bool.false_eq_true, and_self, Nat.add_zero]
      exact finK_rf k
end Go.Proofs.Ytnalkkailafklaa
