/-
  A text without what can be mended: the document's answer.
  Conditions: a text of at most sixty codes.
-/
import Derived.Test.YtcgaphmndnmfdaaGreatLin4
import Derived.Test.YtcgaphmndnmfdaaGreatCel2
import Derived.Test.YtcgaphmndnmfdaaGreatBal12
import Derived.Test.YtcgaphmndnmfdaaGreatCcc4
namespace Go.Proofs.YtcgaphmndnmfdaaGreat
open Go.Pm
open Nat renaming reduceEqDiff → nE, reduceAdd → nA, reduceMul → nM, reduceLeDiff → nD, reduceLT → nL
open Int renaming reduceLE → iL, reduceLT → iT, reduceEq → iE, reduceToNat → iN, cast_ofNat_Int → iC
set_option maxRecDepth 100000
set_option linter.unusedSimpArgs false
set_option linter.unusedVariables false

theorem MendedR (fr : Bool) (X : List Int) (hl : X.length ≤ 60) (h : Heap) {K : PV → Heap → Prop}
    (k : K (.list true 1 (mendT X).length ((mendT X).map (.int .i64))) h) :
    CanP Tryz.prog 13 [.list fr 1 X.length (X.map (.int .i64))] h K := by
  refine e13 rfl ?_
  obtain ⟨z1, z2, z3⟩ := back_size X hl
  have hbx : backX X = ordT cccT ((evenX X).flatMap backT) := rfl
  rw [mendT] at k
  try simp only [c13, r13_0, r13_1, r13_2, r13_3, r13_4, r13_5, r13_6, r13_7, r13_8, r13_9, r13_10, r13_11, pm, pmW, pmB, ft, ↓reduceIte, reduceCtorEq, nE, nA, nM, nD, nL, iL, iT, iE, iN, iC]
  refine EvenR _ X (by omega) _ ?_
  try simp only [pm, pmW, pmB, ft, ↓reduceIte, reduceCtorEq, nE, nA, nM, nD, nL, iL, iT, iE, iN, iC]
  generalize evenX X = Y at *
  refine backR18 _ Y (by omega) _ fun fb b hb => ?_
  try simp only [pm, pmW, pmB, ft, ↓reduceIte, reduceCtorEq, nE, nA, nM, nD, nL, iL, iT, iE, iN, iC]
  have hzl : (Y.map backT).length = Y.length := by simp
  have hfl := flat_map_back Y
  rw [cells_map, ← hzl]
  have lb : h.le (h.set b ((Y.map backT).map cellF)) := Heap.le_set (Heap.le_refl _) hb
  refine cellsTextR _ b (Y.map backT) (by rw [hfl]; omega) (by omega) _ (Heap.set_same _ _ _) ?_
  generalize h.set b ((Y.map backT).map cellF) = g at *
  rw [hfl]
  try simp only [pm, pmW, pmB, ft, ↓reduceIte, reduceCtorEq, nE, nA, nM, nD, nL, iL, iT, iE, iN, iC]
  refine OrderR _ (Y.flatMap backT) (by omega) _ (fun e0 => ?_) (fun e0 => ?_)
  · have el : (backX X).length = 0 := by rw [z3, e0]; rfl
    rw [el] at k
    try simp only [pm, pmW, pmB, ft, ↓reduceIte, reduceCtorEq, nE, nA, nM, nD, nL, iL, iT, iE, iN, iC]
    refine pwp_fall (fun m σ h9 => h9 = g ∧ σ 5 = .nils ∧ σ 6 = .nils ∧ σ 7 = .int .i64 0) 0 ⟨rfl, by simp [put], by simp [put], by simp [put]⟩ ?_
    rintro m σ h9 K9 ⟨rfl, s5, s6, s7⟩ -
    try simp only [s5, s6, s7, pm, pmW, pmB, ft, ↓reduceIte, reduceCtorEq, nE, nA, nM, nD, nL, iL, iT, iE, iN, iC]
    exact (Acc.nil h _ 1).fin lb k
  · rw [← hbx, ← z3]
    generalize backX X = L at *
    try simp only [pm, pmW, pmB, ft, ↓reduceIte, reduceCtorEq, nE, nA, nM, nD, nL, iL, iT, iE, iN, iC]
    refine pwp_up L.length (fun i σ h' => Acc h h' (σ 6) 1 (nrw L i).length ((nrw L i).map (.int .i64)) ∧ h.le h' ∧ (∃ f, σ 5 = .list f 1 L.length (L.map (.int .i64))) ∧ σ 7 = .int .i64 i) ?_ ?_
    · exact ⟨Acc.nil _ _ _, lb, ⟨_, by simp [put]; rfl⟩, by simp [put]⟩
    rintro i σ h' K' hi ⟨a, lh, ⟨f5, s5⟩, s7⟩ next
    have nl := nrw_len L i
    rcases Nat.lt_or_ge i L.length with hlt | hge
    · have hw : IntKind.i64.wrap ((i : Int) + 1) = (i : Int) + 1 := wrap_in (by omega) (by omega)
      have hx := getm (PV.int .i64) L hlt
      rw [show L.getD i default = at0 L i from rfl] at hx
      have hst := nrw_step L i
      try simp only [s5, s7, hlt, pm, pmW, pmB, ft, ↓reduceIte, reduceCtorEq, nE, nA, nM, nD, nL, iL, iT, iE, iN, iC]
      refine rowR49 _ L (by omega) i hlt _ ?_
      cases hr : rowT L i
      · rw [hr, if_neg (by simp)] at hst
        try simp only [s5, s7, hlt, hx, pm, pmW, pmB, ft, ↓reduceIte, reduceCtorEq, nE, nA, nM, nD, nL, iL, iT, iE, iN, iC]
        refine a.app lh (by decide) rfl (by omega) (by simp only [maxLen]; omega) fun v' h4 a4 l4 sd => ?_
        try simp only [s7, hw, pm, pmW, pmB, ft, ↓reduceIte, reduceCtorEq, nE, nA, nM, nD, nL, iL, iT, iE, iN, iC]
        refine next hlt _ _ ?_
        refine ⟨?_, l4, ⟨f5, by simp [put, s5]⟩, by simp [put]⟩
        rw [hst]
        exact acc_add (B := [at0 L i]) (by simpa [put] using a4)
      · rw [hr, if_pos rfl] at hst
        try simp only [s7, hw, pm, pmW, pmB, ft, ↓reduceIte, reduceCtorEq, nE, nA, nM, nD, nL, iL, iT, iE, iN, iC]
        refine next hlt _ _ ?_
        rw [hst]
        exact ⟨by simpa [put] using a, lh, ⟨f5, by simp [put, s5]⟩, by simp [put]⟩
    · have e : i = L.length := by omega
      subst e
      have hnl := Nat.lt_irrefl L.length
      try simp only [s5, s7, hnl, pm, pmW, pmB, ft, ↓reduceIte, reduceCtorEq, nE, nA, nM, nD, nL, iL, iT, iE, iN, iC]
      refine a.fin lh ?_
      rw [olds_ints]; exact k
end Go.Proofs.YtcgaphmndnmfdaaGreat
