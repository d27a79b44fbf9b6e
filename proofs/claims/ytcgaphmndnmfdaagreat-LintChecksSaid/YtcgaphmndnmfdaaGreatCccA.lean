/-
  Combining classes: the package ccc (New, Of, Ordered, Places, Order).
  Conditions: none but those that each sentence tells.
-/
import Derived.Test.YtcgaphmndnmfdaaGreatTrieA
import Derived.Test.YtcgaphmndnmfdaaGreatRngC
import Derived.Test.YtcgaphmndnmfdaaGreatRef06
import Derived.Test.YtcgaphmndnmfdaaGreatStbInt
import Derived.Test.YtcgaphmndnmfdaaGreatIntsEq
namespace Go.Proofs.YtcgaphmndnmfdaaGreat
open Go.Pm
open Nat renaming reduceEqDiff → nE, reduceAdd → nA, reduceMul → nM, reduceLeDiff → nD, reduceLT → nL
open Int renaming reduceLE → iL, reduceLT → iT, reduceEq → iE, reduceToNat → iN, cast_ofNat_Int → iC
set_option maxRecDepth 100000
set_option linter.unusedSimpArgs false
set_option linter.unusedVariables false

def cccT (c : Int) : Int := getT crs 0 c
theorem cccT_eq (c : Int) : getR crs 0 c = cccT c := by
  unfold cccT getT
  split
  · rfl
  · rename_i h
    obtain ⟨m1, _⟩ := may_spec crs (-1) crs_ok
    refine getR_skip fun r hr => ?_
    obtain ⟨i, h1, h2⟩ := List.mem_iff_getElem.1 hr
    have := m1 i h1
    rw [List.getD, List.getElem?_eq_getElem h1, Option.getD_some, h2] at this
    omega
theorem ccc_in (c : Int) : 0 ≤ cccT c ∧ cccT c ≤ 255 := by
  have ok : crs.all (fun r => decide (0 ≤ r.2.2 ∧ r.2.2 ≤ 255)) = true := by kernel_rfl
  unfold cccT getT
  split
  · unfold getR
    cases hr : crs.find? (fun r => decide (r.1 ≤ c ∧ c ≤ r.2.1)) with
    | some r =>
      have := List.all_eq_true.1 ok _ (List.mem_of_find?_eq_some hr)
      simpa using this
    | none => simp
  · omega
/-- What tells classes: a call's, or nobody's. -/
def CO (v : PV) (f : Int → Int) : Prop := (∃ fr f1 F B, v = .fptr fr [tab f1 F B 0] 0 ∧ Tab crs 0 F B ∧ f = cccT) ∨ ((v = .nilp ∨ ∃ fr, v = .fptr fr [.nilp] 0) ∧ f = fun _ => 0)
theorem CO.old {v : PV} {f : Int → Int} (h : CO v f) : CO v.old f := by
  rcases h with ⟨fr, f1, F, B, rfl, a, b⟩ | ⟨rfl | ⟨fr, rfl⟩, e⟩
  · exact .inl ⟨false, false, F, B, by simp [PV.old, olds, old_tab], a, b⟩
  · exact .inr ⟨.inl rfl, e⟩
  · exact .inr ⟨.inr ⟨false, rfl⟩, e⟩
theorem CO.old2 {v : PV} {f : Int → Int} (h : CO v f) : v.old.old = v.old := by
  rcases h with ⟨fr, f1, F, B, rfl, a, b⟩ | ⟨rfl | ⟨fr, rfl⟩, e⟩
  · simp [PV.old, olds, old_tab]
  · rfl
  · rfl
theorem CO.flat {v : PV} {f : Int → Int} (h : CO v f) : Pm.flat v = some [v] := by
  rcases h with ⟨fr, f1, F, B, rfl, a, b⟩ | ⟨rfl | ⟨fr, rfl⟩, e⟩ <;> rfl
theorem CO.rng {v : PV} {f : Int → Int} (h : CO v f) (c : Int) : 0 ≤ f c ∧ f c ≤ 255 := by
  rcases h with ⟨fr, f1, F, B, rfl, a, rfl⟩ | ⟨_, rfl⟩
  · exact ccc_in c
  · show (0 : Int) ≤ 0 ∧ (0 : Int) ≤ 255
    omega
theorem cccNew (h : Heap) {K : PV → Heap → Prop} (k : ∀ v, CO v cccT → K v h) : CanP Tryz.prog 9 [] h K := by
  refine e9 rfl ?_
  try simp only [c9, r9_0, r9_1, r9_2, r9_3, r9_4, pm, pmW, pmB, ft, ↓reduceIte, reduceCtorEq, nE, nA, nM, nD, nL, iL, iT, iE, iN, iC]
  refine Combining _ ?_
  try simp only [pm, pmW, pmB, ft, ↓reduceIte, reduceCtorEq, nE, nA, nM, nD, nL, iL, iT, iE, iN, iC]
  refine Build _ _ crs_ok (by decide) _ _ fun F B T => ?_
  try simp only [tab, pm, pmW, pmB, ft, ↓reduceIte, reduceCtorEq, nE, nA, nM, nD, nL, iL, iT, iE, iN, iC]
  exact finK_le (Heap.le_refl _) (k _ (.inl ⟨true, true, F, B, rfl, T, rfl⟩))
theorem Of (v : PV) (f : Int → Int) (hv : CO v f) (c : Int) (h : Heap) {K : PV → Heap → Prop} (k : K (.int .i64 (f c)) h) : CanP Tryz.prog 115 [v, .int .i64 c] h K := by
  refine e115 rfl ?_
  rcases hv with ⟨fr, f1, F, B, rfl, a, rfl⟩ | ⟨rfl | ⟨fr, rfl⟩, rfl⟩
  · have e : PV.old (.fptr fr [tab f1 F B 0] 0) = .fptr false [tab false F B 0] 0 := by simp [PV.old, olds, old_tab]
    try simp only [c115, r115_0, r115_1, r115_2, r115_3, e, pm, pmW, pmB, ft, ↓reduceIte, reduceCtorEq, nE, nA, nM, nD, nL, iL, iT, iE, iN, iC]
    try simp only [tab, pm, pmW, pmB, ft, ↓reduceIte, reduceCtorEq, nE, nA, nM, nD, nL, iL, iT, iE, iN, iC]
    refine Get _ _ _ _ _ a _ _ ?_
    try simp only [pm, pmW, pmB, ft, ↓reduceIte, reduceCtorEq, nE, nA, nM, nD, nL, iL, iT, iE, iN, iC]
    exact finK_le (Heap.le_refl _) k
  · try simp only [c115, r115_0, r115_1, r115_2, r115_3, pm, pmW, pmB, ft, ↓reduceIte, reduceCtorEq, nE, nA, nM, nD, nL, iL, iT, iE, iN, iC]
    exact finK_le (Heap.le_refl _) k
  · try simp only [c115, r115_0, r115_1, r115_2, r115_3, pm, pmW, pmB, ft, ↓reduceIte, reduceCtorEq, nE, nA, nM, nD, nL, iL, iT, iE, iN, iC]
    exact finK_le (Heap.le_refl _) k
def befT (f : Int → Int) (a b : Int) : Bool := decide (f b = 0) || decide (f a ≤ f b)
theorem before (v : PV) (f : Int → Int) (hv : CO v f) (a b : Int) (h : Heap) {K : PV → Heap → Prop} (k : K (.bool (befT f a b)) h) : CanP Tryz.prog 129 [v, .int .i64 a, .int .i64 b] h K := by
  refine e129 rfl ?_
  have hv' := hv.old
  unfold befT at k
  try simp only [c129, r129_0, r129_1, r129_2, pm, pmW, pmB, ft, ↓reduceIte, reduceCtorEq, nE, nA, nM, nD, nL, iL, iT, iE, iN, iC]
  refine Of _ _ hv' _ _ ?_
  try simp only [pm, pmW, pmB, ft, ↓reduceIte, reduceCtorEq, nE, nA, nM, nD, nL, iL, iT, iE, iN, iC]
  by_cases h1 : f b = 0
  · rw [decide_eq_true h1, Bool.true_or] at k
    try simp only [h1, pm, pmW, pmB, ft, ↓reduceIte, reduceCtorEq, nE, nA, nM, nD, nL, iL, iT, iE, iN, iC]
    exact finK_le (Heap.le_refl _) k
  · rw [decide_eq_false h1, Bool.false_or] at k
    try simp only [h1, pm, pmW, pmB, ft, ↓reduceIte, reduceCtorEq, nE, nA, nM, nD, nL, iL, iT, iE, iN, iC]
    refine Of _ _ hv' _ _ ?_
    try simp only [pm, pmW, pmB, ft, ↓reduceIte, reduceCtorEq, nE, nA, nM, nD, nL, iL, iT, iE, iN, iC]
    exact finK_le (Heap.le_refl _) k
/-- Do marks stand in their order? -/
def ordB (f : Int → Int) : List Int → Bool
  | a :: b :: l => befT f a b && ordB f (b :: l)
  | _ => true
theorem Ordered (v : PV) (f : Int → Int) (hv : CO v f) (fr : Bool) (X : List Int) (hl : X.length ≤ 1000000) (h : Heap) {K : PV → Heap → Prop} (k : K (.bool (ordB f X)) h) : CanP Tryz.prog 94 [v, .list fr 1 X.length (X.map (.int .i64))] h K := by
  refine e94 rfl ?_
  have hv' := hv.old
  try simp only [c94, r94_0, r94_1, r94_2, r94_3, r94_4, r94_5, r94_6, pm, pmW, pmB, ft, ↓reduceIte, reduceCtorEq, nE, nA, nM, nD, nL, iL, iT, iE, iN, iC]
  generalize v.old = v2 at *
  refine pwp_fall (fun m σ h' => ∃ i : Nat, h' = h ∧ m = X.length - i ∧ 1 ≤ i ∧ (i ≤ X.length ∨ i = 1) ∧ ordB f X = ordB f (X.drop (i - 1)) ∧ σ 0 = v2 ∧ σ 1 = .list false 1 X.length (X.map (.int .i64)) ∧ σ 5 = .int .i64 i) (X.length - 1) ⟨1, rfl, rfl, by omega, .inr rfl, rfl, rfl, rfl, rfl⟩ ?_
  rintro m σ h' K' ⟨i, rfl, rfl, h1, h2, hp, s0, s1, s5⟩ next
  try simp only [s1, s5, cdK_dec, pm, pmW, pmB, ft, ↓reduceIte, reduceCtorEq, nE, nA, nM, nD, nL, iL, iT, iE, iN, iC]
  refine ⟨fun hlt => ?_, fun hge => ?_⟩
  · have hx := getm (.int .i64) X hlt
    have hy := getm (.int .i64) X (i := i - 1) (by omega)
    have e : i - 1 + 1 = i := by omega
    have hd : ordB f (X.drop (i - 1)) = (befT f (X.getD (i - 1) default) (X.getD i default) && ordB f (X.drop i)) := by
      rw [drop_getD X (i := i - 1) (by omega), e, drop_getD X hlt]; rfl
    rw [hd] at hp
    generalize X.getD i default = b at *
    generalize X.getD (i - 1) default = a at *
    have w1 : IntKind.i64.wrap ((i : Int) - 1) = ((i - 1 : Nat) : Int) := by rw [wrap_in (by omega) (by omega)]; omega
    have w2 : IntKind.i64.wrap ((i : Int) + 1) = ((i + 1 : Nat) : Int) := by rw [wrap_in (by omega) (by omega)]; omega
    have k1 : i - 1 < X.length := by omega
    try simp only [s0, s1, s5, hx, hy, hlt, w1, k1, pm, pmW, pmB, ft, ↓reduceIte, reduceCtorEq, nE, nA, nM, nD, nL, iL, iT, iE, iN, iC]
    refine ⟨_, before _ _ hv' _ _ _ ⟨rfl, rfl⟩, ?_⟩
    cases hb : befT f a b
    · rw [hb, Bool.false_and] at hp
      rw [hp] at k
      try simp only [pm, pmW, pmB, ft, ↓reduceIte, reduceCtorEq, nE, nA, nM, nD, nL, iL, iT, iE, iN, iC]
      exact finK_le (Heap.le_refl _) k
    · rw [hb, Bool.true_and] at hp
      try simp only [s5, w2, pm, pmW, pmB, ft, ↓reduceIte, reduceCtorEq, nE, nA, nM, nD, nL, iL, iT, iE, iN, iC]
      exact next (X.length - (i + 1)) _ _ (by omega) ⟨i + 1, rfl, rfl, by omega, .inl (by omega), by rw [hp]; rfl, by simp [put, s0], by simp [put, s1], by simp [put]⟩
  · have : ordB f (X.drop (i - 1)) = true := by
      rcases hd : X.drop (i - 1) with _ | ⟨a, _ | ⟨b, l⟩⟩
      · rfl
      · rfl
      · have := congrArg List.length hd
        simp at this; omega
    rw [hp, this] at k
    try simp only [pm, pmW, pmB, ft, ↓reduceIte, reduceCtorEq, nE, nA, nM, nD, nL, iL, iT, iE, iN, iC]
    exact finK_le (Heap.le_refl _) k
/-! ### What stands in each place -/
def rng (a b : Nat) : List Int := (List.range' a (b - a)).map Int.ofNat
theorem rng_len (a b : Nat) : (rng a b).length = b - a := by simp [rng]
theorem rng_succ {a b : Nat} (h : a ≤ b) : rng a (b + 1) = rng a b ++ [(b : Int)] := by
  unfold rng
  rw [show b + 1 - a = (b - a) + 1 by omega, List.range'_concat]
  simp; omega
theorem rng_cut {a b n : Nat} (h : a ≤ b) (h2 : b ≤ n) : rng a n = rng a b ++ rng b n := by
  unfold rng
  rw [show n - a = (b - a) + (n - b) by omega, ← List.range'_append_1, List.map_append]
  congr 2; congr 1; omega
theorem rng_self (a : Nat) : rng a a = [] := by simp [rng]
theorem rng_mem {a b : Nat} {x : Int} (h : x ∈ rng a b) : ∃ i : Nat, x = i ∧ a ≤ i ∧ i < b := by
  unfold rng at h
  obtain ⟨i, hi, rfl⟩ := List.mem_map.1 h
  have := List.mem_range'_1.1 hi
  exact ⟨i, rfl, by omega, by omega⟩
/-- A place's class. -/
def keyP (f : Int → Int) (X : List Int) (p : Int) : Int := f (X.getD p.toNat default)
/-- What lies fixed ahead of a place, and where what may move begins. -/
def fixP (f : Int → Int) (X : List Int) : Nat → List Int × Nat
  | 0 => ([], 0)
  | i + 1 => if f (X.getD i default) = 0 then ((fixP f X i).1 ++ srt (keyP f X) (rng (fixP f X i).2 i) ++ [(i : Int)], i + 1) else fixP f X i
theorem fixP_len (f : Int → Int) (X : List Int) : ∀ i, (fixP f X i).1.length = (fixP f X i).2 ∧ (fixP f X i).2 ≤ i
  | 0 => ⟨rfl, Nat.le_refl _⟩
  | i + 1 => by
    have ih := fixP_len f X i
    unfold fixP
    split
    · simp [srt_len, rng_len]; omega
    · omega
theorem fixP_mem (f : Int → Int) (X : List Int) : ∀ i, ∀ x ∈ (fixP f X i).1, 0 ≤ x ∧ x < i
  | 0, x, h => by simp [fixP] at h
  | i + 1, x, h => by
    have ih := fixP_mem f X i
    have hl := fixP_len f X i
    unfold fixP at h
    split at h
    · simp only [List.mem_append, List.mem_singleton] at h
      rcases h with (h | h) | h
      · have := ih x h; omega
      · obtain ⟨j, rfl, _, _⟩ := rng_mem ((srt_fil _).mem.2 h); omega
      · omega
    · have := ih x h; omega
def placeT (f : Int → Int) (X : List Int) : List Int := (fixP f X X.length).1 ++ srt (keyP f X) (rng (fixP f X X.length).2 X.length)
theorem placeT_len (f : Int → Int) (X : List Int) : (placeT f X).length = X.length := by
  have := fixP_len f X X.length
  unfold placeT; simp [srt_len, rng_len]; omega
theorem placeT_mem (f : Int → Int) (X : List Int) : ∀ x ∈ placeT f X, 0 ≤ x ∧ x < X.length := fun x h => by
  unfold placeT at h
  rcases List.mem_append.1 h with h | h
  · exact fixP_mem f X _ x h
  · obtain ⟨j, rfl, _, _⟩ := rng_mem ((srt_fil _).mem.2 h); omega
end Go.Proofs.YtcgaphmndnmfdaaGreat

/-
  Combining classes, on: what stands in each place.
  Conditions: none but those that each sentence tells.
-/
namespace Go.Proofs.YtcgaphmndnmfdaaGreat
open Go.Pm
open Nat renaming reduceEqDiff → nE, reduceAdd → nA, reduceMul → nM, reduceLeDiff → nD, reduceLT → nL
open Int renaming reduceLE → iL, reduceLT → iT, reduceEq → iE, reduceToNat → iN, cast_ofNat_Int → iC
set_option maxRecDepth 100000
set_option linter.unusedSimpArgs false
set_option linter.unusedVariables false

theorem rng_cons {a n : Nat} (h : a < n) : rng a n = (a : Int) :: rng (a + 1) n := by
  rw [rng_cut (b := a + 1) (by omega) (by omega), rng_succ (Nat.le_refl a), rng_self]; rfl
theorem rng_get {n i : Nat} (h : i < n) : (rng 0 n).getD i default = (i : Int) := by
  unfold rng
  rw [List.getD, List.getElem?_map, Nat.sub_zero, List.getElem?_range' h]
  simp
/-- How far it is done. -/
def rowI (f : Int → Int) (X : List Int) (i : Nat) : List Int := (fixP f X i).1 ++ rng (fixP f X i).2 X.length
theorem rowI_z (f : Int → Int) (X : List Int) {i : Nat} (hi : i < X.length) (hz : f (X.getD i default) = 0) : rowI f X (i + 1) = (fixP f X i).1 ++ srt (keyP f X) (rng (fixP f X i).2 i) ++ rng i X.length := by
  unfold rowI
  rw [show fixP f X (i + 1) = ((fixP f X i).1 ++ srt (keyP f X) (rng (fixP f X i).2 i) ++ [(i : Int)], i + 1) by rw [fixP, if_pos hz]]
  rw [rng_cons hi]; simp
theorem rowI_nz (f : Int → Int) (X : List Int) {i : Nat} (hz : f (X.getD i default) ≠ 0) : fixP f X (i + 1) = fixP f X i := by rw [fixP, if_neg hz]
/-- The codes so. -/
def ordT (f : Int → Int) (X : List Int) : List Int := (placeT f X).map (fun p => X.getD p.toNat default)
theorem placeT_at (f : Int → Int) (X : List Int) {i : Nat} (hi : i < X.length) : 0 ≤ (placeT f X).getD i default ∧ (placeT f X).getD i default < X.length := by
  have hl := placeT_len f X
  have h2 : i < (placeT f X).length := by omega
  have e : (placeT f X).getD i default = (placeT f X)[i] := by simp [List.getD, h2]
  rw [e]
  exact placeT_mem f X _ (List.getElem_mem h2)
end Go.Proofs.YtcgaphmndnmfdaaGreat

/-
  Combining classes: the document's answer.
  Conditions: none but those that each sentence tells.
-/
namespace Go.Proofs.YtcgaphmndnmfdaaGreat
open Go.Pm
open Nat renaming reduceEqDiff → nE, reduceAdd → nA, reduceMul → nM, reduceLeDiff → nD, reduceLT → nL
open Int renaming reduceLE → iL, reduceLT → iT, reduceEq → iE, reduceToNat → iN, cast_ofNat_Int → iC
set_option maxRecDepth 100000
set_option linter.unusedSimpArgs false
set_option linter.unusedVariables false

theorem OfR (c : Int) (h : Heap) {K : PV → Heap → Prop} (k : K (.int .i64 (cccT c)) h) : CanP Tryz.prog 63 [.int .i64 c] h K := by
  refine e63 rfl ?_
  try simp only [c63, r63_0, r63_1, pm, pmW, pmB, ft, ↓reduceIte, reduceCtorEq, nE, nA, nM, nD, nL, iL, iT, iE, iN, iC]
  refine Combining _ ?_
  try simp only [pm, pmW, pmB, ft, ↓reduceIte, reduceCtorEq, nE, nA, nM, nD, nL, iL, iT, iE, iN, iC]
  refine GetR6 _ _ (by decide) _ _ _ ?_
  rw [cccT_eq]
  try simp only [pm, pmW, pmB, ft, ↓reduceIte, reduceCtorEq, nE, nA, nM, nD, nL, iL, iT, iE, iN, iC]
  exact finK_le (Heap.le_refl _) k
theorem befT_ref (a b : Int) : befT cccT a b = !(decide (0 < cccT b) && decide (cccT b < cccT a)) := by
  have r1 := ccc_in a
  have r2 := ccc_in b
  unfold befT
  by_cases h : cccT b = 0
  · simp [h]
  · have : 0 < cccT b := by omega
    simp [h, this, ← decide_not, Int.not_lt]
/-! ### One behind the other -/
def rowJ (f : Int → Int) (X : List Int) (i : Nat) : List Int := (fixP f X i).1 ++ srt (keyP f X) (rng (fixP f X i).2 i)
theorem rowJ_len (f : Int → Int) (X : List Int) (i : Nat) : (rowJ f X i).length = i := by
  have := fixP_len f X i
  simp [rowJ, srt_len, rng_len]; omega
theorem rowJ_mem (f : Int → Int) (X : List Int) (i : Nat) : ∀ x ∈ rowJ f X i, 0 ≤ x ∧ x < i := fun x h => by
  unfold rowJ at h
  rcases List.mem_append.1 h with h | h
  · exact fixP_mem f X _ x h
  · obtain ⟨j, rfl, _, _⟩ := rng_mem ((srt_fil _).mem.2 h); omega
theorem rowJ_at (f : Int → Int) (X : List Int) {i k : Nat} (hk : k < i) : 0 ≤ (rowJ f X i).getD k default ∧ (rowJ f X i).getD k default < i :=
  rowJ_mem f X i _ (get_mem _ (by rw [rowJ_len]; exact hk))
theorem fixP_last (f : Int → Int) (X : List Int) : ∀ i, (fixP f X i).2 = 0 ∨ keyP f X ((fixP f X i).1.getD ((fixP f X i).2 - 1) default) = 0
  | 0 => .inl rfl
  | i + 1 => by
    have ih := fixP_last f X i
    have hl := fixP_len f X i
    by_cases hz : f (X.getD i default) = 0
    · refine .inr ?_
      have hs := rowJ_len f X i
      unfold rowJ at hs
      simp only [fixP, if_pos hz, Nat.add_sub_cancel]
      generalize (fixP f X i).1 ++ srt (keyP f X) (rng (fixP f X i).2 i) = A at *
      subst hs
      rw [get_mid]
      exact hz
    · rw [rowI_nz f X hz]; exact ih
theorem rowJ_z (f : Int → Int) (X : List Int) {i : Nat} (hz : f (X.getD i default) = 0) : rowJ f X (i + 1) = rowJ f X i ++ [(i : Int)] := by
  unfold rowJ
  simp only [fixP, if_pos hz, rng_self]
  simp [srt]
theorem rowJ_ins (f : Int → Int) (X : List Int) {i k : Nat} (hp : 0 < f (X.getD i default)) (hk : k ≤ i) (h1 : ∀ p, k ≤ p → p < i → f (X.getD i default) < keyP f X ((rowJ f X i).getD p default))
    (h2 : k = 0 ∨ ¬ f (X.getD i default) < keyP f X ((rowJ f X i).getD (k - 1) default)) : rowJ f X (i + 1) = (rowJ f X i).take k ++ (i : Int) :: (rowJ f X i).drop k := by
  have hl := fixP_len f X i
  have hlast := fixP_last f X i
  have hJ := rowJ_len f X i
  have e1 : rowJ f X (i + 1) = (fixP f X i).1 ++ srt (keyP f X) (rng (fixP f X i).2 i ++ [(i : Int)]) := by
    unfold rowJ
    rw [rowI_nz f X (by omega), rng_succ hl.2]
  rw [e1]
  have sS := srt_srt (key := keyP f X) (rng (fixP f X i).2 i)
  have fS := srt_fil (key := keyP f X) (rng (fixP f X i).2 i)
  unfold rowJ at *
  generalize (rng (fixP f X i).2 i) = R at *
  generalize (fixP f X i).1 = F at *
  generalize (fixP f X i).2 = lo at *
  generalize srt (keyP f X) R = S at *
  have hlo : lo ≤ k := by
    rcases Nat.lt_or_ge k lo with q | q
    · have := h1 (lo - 1) (by omega) (by omega)
      rw [get_left F S (by omega)] at this
      rcases hlast with e | e
      · omega
      · omega
    · exact q
  rw [← hl.1] at hlo
  have ek : k = F.length + (k - F.length) := by omega
  have hS : S.length = i - F.length := by rw [List.length_append] at hJ; omega
  rw [ek, List.take_length_add_append, List.drop_length_add_append]
  generalize hq : k - F.length = t at *
  have m := mergeR (key := keyP f X) (i : Int) S t sS (by omega) (by
    rcases Nat.eq_zero_or_pos t with e | e
    · exact .inl e
    · rcases h2 with q | q
      · omega
      · rw [get_app F S (by omega), show k - 1 - F.length = t - 1 by omega] at q
        exact .inr q) (by
    rcases Nat.lt_or_ge t S.length with e | e
    · have := h1 k (Nat.le_refl _) (by omega)
      rw [get_app F S (by omega), hq] at this
      exact .inr this
    · exact .inl (by omega))
  rw [← srt_of m.1 ((fS.app (Fil.refl [(i : Int)])).trans m.2), List.append_assoc]
/-- The first place. -/
theorem rowJ_1 (f : Int → Int) (X : List Int) : rowJ f X 1 = [0] := by
  have h := rowJ_len f X 1
  have m := rowJ_mem f X 1
  rcases hr : rowJ f X 1 with _ | ⟨a, _ | ⟨b, l⟩⟩
  · rw [hr] at h; simp at h
  · have := m a (by rw [hr]; simp)
    have : a = 0 := by omega
    rw [this]
  · rw [hr] at h; simp at h
theorem slcN_lo0 {k : Option Nat} {E : Nat} {K : Kt} {h : Heap} : slcK k (some E) .nils (some (.int .i64 0)) none K h = K .nils h := by
  have := cut_lo (n := 0) (j := 0) (Nat.le_refl _)
  simp only [slcK, Option.isSome_some, true_and]
  rw [show ((0 : Int)) = ((0 : Nat) : Int) from rfl, ex_cut this]
end Go.Proofs.YtcgaphmndnmfdaaGreat
