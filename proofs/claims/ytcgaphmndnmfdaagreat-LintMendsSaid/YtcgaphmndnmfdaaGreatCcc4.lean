/-
  Combining classes: the laws.
  Conditions: none but those that each sentence tells.
-/
import Derived.Test.YtcgaphmndnmfdaaGreatCccA
namespace Go.Proofs.YtcgaphmndnmfdaaGreat
open Go.Pm
open Nat renaming reduceEqDiff → nE, reduceAdd → nA, reduceMul → nM, reduceLeDiff → nD, reduceLT → nL
open Int renaming reduceLE → iL, reduceLT → iT, reduceEq → iE, reduceToNat → iN, cast_ofNat_Int → iC
set_option maxRecDepth 100000
set_option linter.unusedSimpArgs false
set_option linter.unusedVariables false

theorem EqualN (fr : Bool) (h : Heap) {K : PV → Heap → Prop} (k : K (.bool true) h) : CanP Tryz.prog 11 [.list fr 1 0 [], .nils] h K := by
  refine e11 rfl ?_
  try simp only [c11, r11_0, r11_1, r11_2, r11_3, r11_4, r11_5, r11_6, r11_7, r11_8, r11_9, pm, pmW, pmB, ft, ↓reduceIte, reduceCtorEq, nE, nA, nM, nD, nL, iL, iT, iE, iN, iC]
  refine pwp_fall (fun m σ h9 => h9 = h ∧ σ 12 = .int .i64 0 ∧ σ 13 = .int .i64 0) 0 ⟨rfl, rfl, rfl⟩ ?_
  rintro m σ h9 K9 ⟨rfl, s12, s13⟩ -
  try simp only [s12, s13, pm, pmW, pmB, ft, ↓reduceIte, reduceCtorEq, nE, nA, nM, nD, nL, iL, iT, iE, iN, iC]
  exact finK_le (Heap.le_refl _) k
theorem OrderR (fr : Bool) (X : List Int) (hl : X.length ≤ 1000000) (h : Heap) {K : PV → Heap → Prop} (kn : X = [] → K .nils h) (k : X ≠ [] → K (.list true 1 X.length ((ordT cccT X).map (.int .i64))) h) :
    CanP Tryz.prog 37 [.list fr 1 X.length (X.map (.int .i64))] h K := by
  refine e37 rfl ?_
  try simp only [c37, r37_0, r37_1, r37_2, r37_3, r37_4, r37_5, r37_6, r37_7, pm, pmW, pmB, ft, ↓reduceIte, reduceCtorEq, nE, nA, nM, nD, nL, iL, iT, iE, iN, iC]
  by_cases hX : X = []
  · subst hX
    refine PlacesR false [] (by simp) _ (fun _ => ?_) (fun e => absurd rfl e)
    try simp only [pm, pmW, pmB, ft, ↓reduceIte, reduceCtorEq, nE, nA, nM, nD, nL, iL, iT, iE, iN, iC]
    refine pwp_fall (fun m σ h9 => h9 = h ∧ σ 3 = .nils ∧ σ 4 = .nils ∧ σ 5 = .int .i64 0) 0 ⟨rfl, rfl, rfl, rfl⟩ ?_
    rintro m σ h9 K9 ⟨rfl, s3, s4, s5⟩ -
    try simp only [s3, s4, s5, pm, pmW, pmB, ft, ↓reduceIte, reduceCtorEq, nE, nA, nM, nD, nL, iL, iT, iE, iN, iC]
    exact finK_le (Heap.le_refl _) (kn rfl)
  refine PlacesR false X hl _ (fun e => absurd e hX) (fun _ => ?_)
  try simp only [pm, pmW, pmB, ft, ↓reduceIte, reduceCtorEq, nE, nA, nM, nD, nL, iL, iT, iE, iN, iC]
  have hpl := placeT_len cccT X
  refine pwp_up X.length (fun i σ h' => Acc h h' (σ 3) 1 i (((placeT cccT X).take i).map (fun p => PV.int .i64 (X.getD p.toNat default))) ∧ (i = 0 → σ 3 = .nils) ∧ h.le h' ∧ σ 0 = .list false 1 X.length (X.map (.int .i64)) ∧ σ 4 = .list true 1 X.length ((placeT cccT X).map (.int .i64)) ∧ σ 5 = .int .i64 i) ?_ ?_
  · exact ⟨Acc.nil _ _ _, fun _ => rfl, Heap.le_refl _, rfl, rfl, rfl⟩
  rintro i σ h' K' hi ⟨a, hne, lh, s0, s4, s5⟩ next
  rcases Nat.lt_or_ge i X.length with hlt | hge
  · have hw : IntKind.i64.wrap ((i : Int) + 1) = (i : Int) + 1 := wrap_in (by omega) (by omega)
    have hx := getm (.int .i64) (placeT cccT X) (i := i) (by omega)
    have hp := placeT_at cccT X hlt
    have htk := take_succ_map (fun p => PV.int .i64 (X.getD p.toNat default)) (placeT cccT X) (i := i) (by omega)
    generalize (placeT cccT X).getD i default = p at *
    have hy := getm (.int .i64) X (i := p.toNat) (by omega)
    have p0 := hp.1
    have p1 := hp.2
    try simp only [s0, s4, s5, hlt, hw, hx, hy, p0, p1, pm, pmW, pmB, ft, ↓reduceIte, reduceCtorEq, nE, nA, nM, nD, nL, iL, iT, iE, iN, iC]
    refine a.app lh (by decide) rfl (by omega) (by simp only [maxLen]; omega) fun v' h3 a' l' sd => ?_
    try simp only [s5, hw, pm, pmW, pmB, ft, ↓reduceIte, reduceCtorEq, nE, nA, nM, nD, nL, iL, iT, iE, iN, iC]
    refine next hlt _ _ ⟨?_, fun e => by omega, l', by simp [put, s0], by simp [put, s4], by simp [put]⟩
    rw [htk]
    simpa [put] using a'
  · have e : i = X.length := by omega
    subst e
    have hnl := Nat.lt_irrefl X.length
    have hl0 : X.length ≠ 0 := fun e => hX (List.length_eq_zero_iff.1 e)
    try simp only [s4, s5, hnl, pm, pmW, pmB, ft, ↓reduceIte, reduceCtorEq, nE, nA, nM, nD, nL, iL, iT, iE, iN, iC]
    refine a.fin lh ?_
    rw [List.take_of_length_le (by omega)]
    have : ((placeT cccT X).map (fun p => PV.int .i64 (X.getD p.toNat default))) = (ordT cccT X).map (.int .i64) := by simp [ordT]
    rw [this, olds_ints]; exact k hX
theorem ordT_len (f : Int → Int) (X : List Int) : (ordT f X).length = X.length := by simp [ordT, placeT_len]
theorem fixP_0 (X : List Int) : ∀ i, fixP (fun _ => 0) X i = (rng 0 i, i)
  | 0 => rfl
  | i + 1 => by rw [fixP, if_pos rfl, fixP_0 X i, rng_self, rng_succ (Nat.zero_le i)]; simp [srt]
theorem ordT_0 (X : List Int) : ordT (fun _ => 0) X = X := by
  unfold ordT placeT
  rw [fixP_0, rng_self]
  simp only [srt, List.foldl_nil, List.append_nil, rng, List.map_map, Nat.sub_zero]
  refine List.ext_getElem (by simp) fun i h1 h2 => ?_
  simp [h2]
theorem ordB_0 : ∀ X : List Int, ordB (fun _ => 0) X = true
  | [] => rfl
  | [_] => rfl
  | _ :: b :: l => by unfold ordB; rw [ordB_0 (b :: l)]; rfl
theorem fits_int (r : List PV) (h : Fits [some .i64] r) : ∃ x : Int, r = [.int .i64 x] ∧ (x ≤ 9223372036854775807 ∧ -9223372036854775808 ≤ x) := by
  obtain ⟨a, r, rfl, ha, rfl⟩ := h
  have := wf64 ha
  exact ⟨a, rfl, by omega⟩
theorem flat_ints (l : List Int) : (List.map (fun x => [PV.int IntKind.i64 x]) l).flatten = l.map (.int .i64) := by
  induction l with
  | nil => rfl
  | cons x l ih => simp [ih]
def kinds_CccTells : List AKind := [.row [some .i64] 8]
def kinds_CccNobody : List AKind := [.row [some .i64] 8]
end Go.Proofs.YtcgaphmndnmfdaaGreat
