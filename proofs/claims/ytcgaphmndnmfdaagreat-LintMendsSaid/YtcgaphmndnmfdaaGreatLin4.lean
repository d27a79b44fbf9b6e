/-
  A text without what can be mended (lint.Mended): the package's walk.
  Conditions: a text of at most sixty codes.
-/
import Derived.Test.YtcgaphmndnmfdaaGreatLin3
import Derived.Test.YtcgaphmndnmfdaaGreatCel1
namespace Go.Proofs.YtcgaphmndnmfdaaGreat
open Go.Pm
open Nat renaming reduceEqDiff → nE, reduceAdd → nA, reduceMul → nM, reduceLeDiff → nD, reduceLT → nL
open Int renaming reduceLE → iL, reduceLT → iT, reduceEq → iE, reduceToNat → iN, cast_ofNat_Int → iC
set_option maxRecDepth 100000
set_option linter.unusedSimpArgs false
set_option linter.unusedVariables false

theorem flat_len_back (X : List Int) : (X.flatMap backT).length ≤ 2 * X.length := by
  induction X with
  | nil => simp
  | cons c X ih =>
    have := back_len c
    rw [List.flatMap_cons, List.length_append, List.length_cons]; omega
theorem flat_map_back (X : List Int) : (X.map backT).flatten = X.flatMap backT := by rw [← List.flatMap_def]
theorem cells_map (X : List Int) (g : List Int → PV) : (X.map fun c => g (backT c)) = (X.map backT).map g := by rw [List.map_map]; rfl
theorem ordT_len4 (f : Int → Int) (X : List Int) : (ordT f X).length = X.length := by simp [ordT, placeT_len]
theorem back_size (X : List Int) (hl : X.length ≤ 60) : (evenX X).length ≤ 120 ∧ ((evenX X).flatMap backT).length ≤ 240 ∧ (backX X).length = ((evenX X).flatMap backT).length := by
  have a := evenX_le X
  have b := flat_len_back (evenX X)
  exact ⟨by omega, by omega, by rw [backX, ordT_len4]⟩
theorem mend_size (X : List Int) (hl : X.length ≤ 60) : (mendT X).length ≤ 240 := by
  obtain ⟨a, b, c⟩ := back_size X hl
  have := nrw_len (backX X) (backX X).length
  rw [mendT]; omega
theorem acc_add4 {h h' : Heap} {v : PV} {A B : List Int} (a : Acc h h' v 1 (A.length + B.length) (A.map (.int .i64) ++ B.map (.int .i64))) : Acc h h' v 1 (A ++ B).length ((A ++ B).map (.int .i64)) := by
  rw [List.length_append, List.map_append]; exact a
theorem nrw_step (L : List Int) (i : Nat) : nrw L (i + 1) = if rowT L i then nrw L i else nrw L i ++ [at0 L i] := rfl
theorem lintMended (p : PV) (hp : PR p) (c : PV) (hc : CO c cccT) (fr : Bool) (X : List Int) (hl : X.length ≤ 60) (h : Heap) {K : PV → Heap → Prop}
    (k : K (.list true 1 (mendT X).length ((mendT X).map (.int .i64))) h) :
    CanP Tryz.prog 12 [p, c, .list fr 1 X.length (X.map (.int .i64))] h K := by
  refine e12 rfl ?_
  have hp' := hp.old
  have hc' := hc.old
  have ho2 : p.old.old = p.old := hp.old2
  have hc2 : c.old.old = c.old := hc.old2
  obtain ⟨z1, z2, z3⟩ := back_size X hl
  have hbx : backX X = ordT cccT ((evenX X).flatMap backT) := rfl
  rw [mendT] at k
  try simp only [c12, r12_0, r12_1, r12_2, r12_3, r12_4, r12_5, r12_6, r12_7, r12_8, r12_9, r12_10, r12_11, r12_12, ho2, hc2, pm, pmW, pmB, ft, ↓reduceIte, reduceCtorEq, nE, nA, nM, nD, nL, iL, iT, iE, iN, iC]
  generalize p.old = p2 at *
  generalize c.old = c2 at *
  refine Even _ hp' _ X (by omega) _ ?_
  try simp only [pm, pmW, pmB, ft, ↓reduceIte, reduceCtorEq, nE, nA, nM, nD, nL, iL, iT, iE, iN, iC]
  generalize evenX X = Y at *
  refine unBack _ Y (by omega) _ fun fb b hb => ?_
  try simp only [pm, pmW, pmB, ft, ↓reduceIte, reduceCtorEq, nE, nA, nM, nD, nL, iL, iT, iE, iN, iC]
  have hzl : (Y.map backT).length = Y.length := by simp
  have hfl := flat_map_back Y
  rw [cells_map, ← hzl]
  refine cellsText _ b (Y.map backT) (by rw [hfl]; omega) (by omega) _ (Heap.set_same _ _ _) ?_
  rw [Heap.kill_kset, Heap.kill_none hb, hfl]
  try simp only [pm, pmW, pmB, ft, ↓reduceIte, reduceCtorEq, nE, nA, nM, nD, nL, iL, iT, iE, iN, iC]
  refine Order _ cccT hc' _ (Y.flatMap backT) (by omega) _ ?_
  rw [← hbx, ← z3]
  generalize backX X = L at *
  try simp only [pm, pmW, pmB, ft, ↓reduceIte, reduceCtorEq, nE, nA, nM, nD, nL, iL, iT, iE, iN, iC]
  refine pwp_up L.length (fun i σ h' => Acc h h' (σ 10) 1 (nrw L i).length ((nrw L i).map (.int .i64)) ∧ h.le h' ∧ (∃ f, σ 9 = .list f 1 L.length (L.map (.int .i64))) ∧ (∃ f, σ 26 = .list f 1 L.length (L.map (.int .i64))) ∧ σ 27 = .int .i64 L.length ∧ σ 28 = .int .i64 i) ?_ ?_
  · exact ⟨Acc.nil _ _ _, Heap.le_refl _, ⟨_, by simp [put]; rfl⟩, ⟨_, by simp [put]; rfl⟩, by simp [put], by simp [put]⟩
  rintro i σ h' K' hi ⟨a, lh, ⟨f9, s9⟩, ⟨f26, s26⟩, s27, s28⟩ next
  have nl := nrw_len L i
  rcases Nat.lt_or_ge i L.length with hlt | hge
  · have hw : IntKind.i64.wrap ((i : Int) + 1) = (i : Int) + 1 := wrap_in (by omega) (by omega)
    have hx := getm (PV.int .i64) L hlt
    rw [show L.getD i default = at0 L i from rfl] at hx
    have hst := nrw_step L i
    try simp only [s9, s26, s27, s28, hlt, hx, pm, pmW, pmB, ft, ↓reduceIte, reduceCtorEq, nE, nA, nM, nD, nL, iL, iT, iE, iN, iC]
    refine lintRow _ L (by omega) i hlt _ ?_
    cases hr : rowT L i
    · rw [hr, if_neg (by simp)] at hst
      try simp only [pm, pmW, pmB, ft, ↓reduceIte, reduceCtorEq, nE, nA, nM, nD, nL, iL, iT, iE, iN, iC]
      refine a.app lh (by decide) rfl (by omega) (by simp only [maxLen]; omega) fun v' h4 a4 l4 sd => ?_
      try simp only [s28, hw, pm, pmW, pmB, ft, ↓reduceIte, reduceCtorEq, nE, nA, nM, nD, nL, iL, iT, iE, iN, iC]
      refine next hlt _ _ ?_
      refine ⟨?_, l4, ⟨f9, by simp [put, s9]⟩, ⟨f26, by simp [put, s26]⟩, by simp [put, s27], by simp [put]⟩
      rw [hst]
      exact acc_add4 (B := [at0 L i]) (by simpa [put] using a4)
    · rw [hr, if_pos rfl] at hst
      try simp only [s28, hw, pm, pmW, pmB, ft, ↓reduceIte, reduceCtorEq, nE, nA, nM, nD, nL, iL, iT, iE, iN, iC]
      refine next hlt _ _ ?_
      rw [hst]
      exact ⟨by simpa [put] using a, lh, ⟨f9, by simp [put, s9]⟩, ⟨f26, by simp [put, s26]⟩, by simp [put, s27], by simp [put]⟩
  · have e : i = L.length := by omega
    subst e
    have hnl := Nat.lt_irrefl L.length
    try simp only [s27, s28, hnl, pm, pmW, pmB, ft, ↓reduceIte, reduceCtorEq, nE, nA, nM, nD, nL, iL, iT, iE, iN, iC]
    refine a.fin lh ?_
    rw [olds_ints]; exact k
end Go.Proofs.YtcgaphmndnmfdaaGreat
