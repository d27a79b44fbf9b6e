/-
  Where a whole number stands in a rising row (slices.BinarySearch).
  Conditions: the row does not fall.
-/
import Derived.Test.YtcgaphmndnmfdaaGreatC
import Derived.Test.YtcgaphmndnmfdaaGreatPmT
namespace Go.Proofs.YtcgaphmndnmfdaaGreat
open Go.Pm
open Nat renaming reduceEqDiff → nE, reduceAdd → nA, reduceMul → nM, reduceLeDiff → nD, reduceLT → nL
open Int renaming reduceLE → iL, reduceLT → iT, reduceEq → iE, reduceToNat → iN, cast_ofNat_Int → iC
set_option maxRecDepth 100000
set_option linter.unusedSimpArgs false
set_option linter.unusedVariables false

theorem isNaN1 (x : Int) (h : Heap) {K : PV → Heap → Prop} (k : K (.bool false) h) : CanP Tryz.prog 147 [.int .i64 x] h K := by
  refine e147 rfl ?_
  try simp only [c147, r147_0, r147_1, pm, pmW, pmB, ft, ↓reduceIte, reduceCtorEq, nE, nA, nM, nD, nL, iL, iT, iE, iN, iC]
  exact finK_le (Heap.le_refl _) k
theorem isNaN2 (x : Int) (h : Heap) {K : PV → Heap → Prop} (k : K (.bool false) h) : CanP Tryz.prog 127 [.int .i64 x] h K := by
  refine e127 rfl ?_
  try simp only [c127, r127_0, r127_1, pm, pmW, pmB, ft, ↓reduceIte, reduceCtorEq, nE, nA, nM, nD, nL, iL, iT, iE, iN, iC]
  exact finK_le (Heap.le_refl _) k
theorem LessI (x y : Int) (h : Heap) {K : PV → Heap → Prop} (k : K (.bool (decide (x < y))) h) : CanP Tryz.prog 126 [.int .i64 x, .int .i64 y] h K := by
  refine e126 rfl ?_
  try simp only [c126, r126_0, r126_1, pm, pmW, pmB, ft, ↓reduceIte, reduceCtorEq, nE, nA, nM, nD, nL, iL, iT, iE, iN, iC]
  refine isNaN1 _ _ ?_
  try simp only [pm, pmW, pmB, ft, ↓reduceIte, reduceCtorEq, nE, nA, nM, nD, nL, iL, iT, iE, iN, iC]
  exact finK_le (Heap.le_refl _) k
/-- Where `x` would stand in `l`: what is below is ahead of it. -/
def Low (l : List Int) (x : Int) (p : Nat) : Prop := p ≤ l.length ∧ (∀ j, j < p → l.getD j default < x) ∧ ∀ j, p ≤ j → j < l.length → x ≤ l.getD j default
theorem BinSearch (fr : Bool) (l : List Int) (hl : l.length ≤ 1000000000) (hs : ∀ i j, i ≤ j → j < l.length → l.getD i default ≤ l.getD j default) (x : Int) (h : Heap) {K : PV → Heap → Prop}
    (k : ∀ p : Nat, Low l x p → K (.tup [.int .i64 p, .bool (decide (p < l.length ∧ l.getD p default = x))]) h) :
    CanP Tryz.prog 91 [.list fr 1 l.length (l.map (.int .i64)), .int .i64 x] h K := by
  refine e91 rfl ?_
  try simp only [c91, r91_0, r91_1, r91_2, r91_3, r91_4, r91_5, r91_6, r91_7, r91_8, pm, pmW, pmB, ft, ↓reduceIte, reduceCtorEq, nE, nA, nM, nD, nL, iL, iT, iE, iN, iC]
  refine pwp_fall (fun m σ h' => ∃ a b : Nat, b - a ≤ m ∧ a ≤ b ∧ b ≤ l.length ∧ h' = h ∧ σ 0 = .list false 1 l.length (l.map (.int .i64)) ∧ σ 1 = .int .i64 x ∧ σ 6 = .int .i64 l.length ∧ σ 7 = .int .i64 a ∧ σ 8 = .int .i64 b ∧ (∀ j, j < a → l.getD j default < x) ∧ ∀ j, b ≤ j → j < l.length → x ≤ l.getD j default) l.length ?_ ?_
  · exact ⟨0, l.length, by omega, by omega, by omega, rfl, rfl, rfl, rfl, rfl, rfl, fun j hj => by omega, fun j h1 h2 => by omega⟩
  · rintro m σ h' K' ⟨a, b, hm, hab, hb, rfl, s0, s1, s6, s7, s8, h1, h2⟩ next
    try simp only [s0, s1, s6, s7, s8, cdK_dec, pm, pmW, pmB, ft, ↓reduceIte, reduceCtorEq, nE, nA, nM, nD, nL, iL, iT, iE, iN, iC]
    refine ⟨fun hlt => ?_, fun hge => ?_⟩
    · have hlt' : a < b := by omega
      have e1 : IntKind.i64.wrap ((a : Int) + b) = (a : Int) + b := wrap_in (by omega) (by omega)
      have e2 : IntKind.u64.wrap ((a : Int) + b) = (a : Int) + b := by rw [IntKind.wrap_u64]; omega
      have e3 : ((a : Int) + b).fdiv (2 ^ (min 1 IntKind.u64.bits)) = (((a + b) / 2 : Nat) : Int) := by
        rw [show (2 : Int) ^ (min 1 IntKind.u64.bits) = 2 from rfl, Int.fdiv_eq_ediv_of_nonneg _ (by omega)]; omega
      have e4 : IntKind.i64.wrap (((a + b) / 2 : Nat) : Int) = (((a + b) / 2 : Nat) : Int) := wrap_in (by omega) (by omega)
      have hmid : (a + b) / 2 < l.length := by omega
      have hx := getm (.int .i64) l hmid
      try simp only [e1, e2, e3, e4, hx, hmid, s0, s1, pm, pmW, pmB, ft, ↓reduceIte, reduceCtorEq, nE, nA, nM, nD, nL, iL, iT, iE, iN, iC]
      refine LessI _ _ _ ?_
      by_cases hq : l.getD ((a + b) / 2) default < x
      · try simp only [hq, pm, pmW, pmB, ft, ↓reduceIte, reduceCtorEq, nE, nA, nM, nD, nL, iL, iT, iE, iN, iC]
        have e5 : IntKind.i64.wrap ((((a + b) / 2 : Nat) : Int) + 1) = (((a + b) / 2 + 1 : Nat) : Int) := by rw [wrap_in (by omega) (by omega)]; omega
        try simp only [e5, pm, pmW, pmB, ft, ↓reduceIte, reduceCtorEq, nE, nA, nM, nD, nL, iL, iT, iE, iN, iC]
        refine next (b - ((a + b) / 2 + 1)) _ _ (by omega) ⟨(a + b) / 2 + 1, b, by omega, by omega, hb, rfl, by simp [put, s0], by simp [put, s1], by simp [put, s6], by simp [put], by simp [put, s8], fun j hj => ?_, h2⟩
        exact Int.lt_of_le_of_lt (hs j ((a + b) / 2) (by omega) hmid) hq
      · try simp only [hq, pm, pmW, pmB, ft, ↓reduceIte, reduceCtorEq, nE, nA, nM, nD, nL, iL, iT, iE, iN, iC]
        refine next ((a + b) / 2 - a) _ _ (by omega) ⟨a, (a + b) / 2, by omega, by omega, by omega, rfl, by simp [put, s0], by simp [put, s1], by simp [put, s6], by simp [put, s7], by simp [put], h1, fun j hj hj2 => ?_⟩
        exact Int.le_trans (Int.not_lt.1 hq) (hs _ j hj hj2)
    · have hab' : a = b := by omega
      subst hab'
      have kk := k a ⟨hb, h1, h2⟩
      try simp only [s0, s1, s6, s7, pm, pmW, pmB, ft, ↓reduceIte, reduceCtorEq, nE, nA, nM, nD, nL, iL, iT, iE, iN, iC]
      by_cases hal : a < l.length
      · have hx := getm (.int .i64) l hal
        try simp only [hal, hx, s0, s1, s7, pm, pmW, pmB, ft, ↓reduceIte, reduceCtorEq, nE, nA, nM, nD, nL, iL, iT, iE, iN, iC]
        by_cases hq : l.getD a default = x
        · try simp only [hq, s0, s1, s7, pm, pmW, pmB, ft, ↓reduceIte, reduceCtorEq, nE, nA, nM, nD, nL, iL, iT, iE, iN, iC]
          rw [decide_eq_true ⟨hal, hq⟩] at kk
          exact finK_le (Heap.le_refl _) kk
        · try simp only [hq, s0, s1, s7, hal, hx, pm, pmW, pmB, ft, ↓reduceIte, reduceCtorEq, nE, nA, nM, nD, nL, iL, iT, iE, iN, iC]
          refine isNaN2 _ _ ?_
          try simp only [s0, s1, s7, pm, pmW, pmB, ft, ↓reduceIte, reduceCtorEq, nE, nA, nM, nD, nL, iL, iT, iE, iN, iC]
          rw [decide_eq_false (fun hh => hq hh.2)] at kk
          exact finK_le (Heap.le_refl _) kk
      · try simp only [hal, s0, s1, s7, pm, pmW, pmB, ft, ↓reduceIte, reduceCtorEq, nE, nA, nM, nD, nL, iL, iT, iE, iN, iC]
        rw [decide_eq_false (fun hh => hal hh.1)] at kk
        exact finK_le (Heap.le_refl _) kk
end Go.Proofs.YtcgaphmndnmfdaaGreat
