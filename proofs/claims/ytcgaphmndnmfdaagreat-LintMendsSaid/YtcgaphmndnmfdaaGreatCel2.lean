/-
  Cells, and what forms are taken back to: the document's answers.
  Conditions: a text of at most a hundred thousand codes.
-/
import Derived.Test.YtcgaphmndnmfdaaGreatCel1
namespace Go.Proofs.YtcgaphmndnmfdaaGreat
open Go.Pm
open Nat renaming reduceEqDiff → nE, reduceAdd → nA, reduceMul → nM, reduceLeDiff → nD, reduceLT → nL
open Int renaming reduceLE → iL, reduceLT → iT, reduceEq → iE, reduceToNat → iN, cast_ofNat_Int → iC
set_option maxRecDepth 100000
set_option linter.unusedSimpArgs false
set_option linter.unusedVariables false

theorem cellsNewR (n : Nat) (hn : n ≤ 100000) (h : Heap) {K : PV → Heap → Prop} (k : ∀ b, h.f b = none → K (.tup [cellsV true b n, .int .i64 0]) (h.set b (List.replicate n .nils))) :
    CanP Tryz.prog 73 [.int .i64 n] h K := by
  refine e73 rfl ?_
  have h0 : ¬ (n : Int) < 0 := by omega
  have h1 : ¬ (16777216 : Int) < (n : Int) := by omega
  try simp only [c73, r73_0, r73_1, r73_2, r73_3, h0, h1, pm, pmW, pmB, ft, ↓reduceIte, reduceCtorEq, nE, nA, nM, nD, nL, iL, iT, iE, iN, iC]
  refine ⟨Nat.le_refl _, by omega, by omega, fun b hb => ?_⟩
  rw [rep_one]
  exact finK_rf (k b hb)
/-- A cell whose codes are only read. -/
def cellF (Y : List Int) : PV := .list false 1 Y.length (Y.map (.int .i64))
theorem heap_back (h : Heap) (b b2 : Nat) (hne : b2 ≠ b) (e : h.f b2 = none) (x y z : List PV) : (((h.set b2 x).set b y).kill b2).set b z = h.set b z := by
  refine Heap.ext' fun x => ?_
  by_cases hx : x = b
  · subst hx; simp [Heap.set]
  · by_cases hx2 : x = b2
    · subst hx2; simp [Heap.set, Heap.kill, hne, e]
    · simp [Heap.set, Heap.kill, hx, hx2]
theorem cellsSetR (f fr : Bool) (b n i : Nat) (hi : i < n) (cs : List PV) (hcs : cs.length = n) (Y : List Int) (h1 : 1 ≤ Y.length) (hY : Y.length ≤ 100) (h : Heap) (hb : h.f b = some cs) {K : PV → Heap → Prop} (k : K (.int .i64 0) (h.set b (cs.set i (cellF Y)))) :
    CanP Tryz.prog 74 [cellsV f b n, .int .i64 i, .list fr 1 Y.length (Y.map (.int .i64))] h K := by
  refine e74 rfl ?_
  have h0 : ¬ (i : Int) < 0 := by omega
  have h2 : ¬ (n : Int) ≤ (i : Int) := by omega
  try simp only [c74, r74_0, r74_1, r74_2, r74_3, r74_4, cellsV, h0, h2, pm, pmW, pmB, ft, ↓reduceIte, reduceCtorEq, nE, nA, nM, nD, nL, iL, iT, iE, iN, iC]
  refine ⟨by omega, by simp only [maxLen]; omega, ?_⟩
  unfold apnK
  rw [if_neg (by omega)]
  intro b2 hb2
  have hne : b2 ≠ b := fun e => by rw [e, hb] at hb2; cases hb2
  have hb' : (h.set b2 (Y.map (.int .i64))).f b = some cs := by rw [Heap.set_ne _ _ (Ne.symm hne)]; exact hb
  try simp only [hb', hi, hcs, pm, pmW, pmB, ft, ↓reduceIte, reduceCtorEq, nE, nA, nM, nD, nL, iL, iT, iE, iN, iC]
  refine ⟨by omega, ?_⟩
  rw [wr_one (by omega)]
  have f1 : frzC ((h.set b2 (Y.map (.int .i64))).set b (cs.set i (.buf b2 1 0 Y.length))) (.ptr b i) 0 = some (b, b2, cs.set i (cellF Y)) := by
    have e1 : (cs.set i (PV.buf b2 1 0 Y.length))[i + 0]? = some (.buf b2 1 0 Y.length) := by rw [Nat.add_zero, List.getElem?_set_self (by omega)]
    have e2 : ((h.set b2 (Y.map (.int .i64))).set b (cs.set i (.buf b2 1 0 Y.length))).f b2 = some (Y.map (.int .i64)) := by rw [Heap.set_ne _ _ hne, Heap.set_same]
    simp only [frzC, Heap.set_same, e1, frzV, e2]
    rw [if_pos (by simp)]
    have e3 : olds ((Y.map (PV.int .i64)).take Y.length) = Y.map (.int .i64) := by rw [List.take_of_length_le (by simp), olds_ints]
    simp [cellF, e3, hne, Ne.symm hne]
  try simp only [f1, pm, pmW, pmB, ft, ↓reduceIte, reduceCtorEq, nE, nA, nM, nD, nL, iL, iT, iE, iN, iC]
  rw [heap_back h b b2 hne hb2]
  exact finK_rf k
theorem partsR18 (c : Int) (h : Heap) {K : PV → Heap → Prop} (k : K (.list true 1 (backT c).length ((backT c).map (.int .i64))) h) :
    CanP Tryz.prog 75 [.int .i64 c] h K := by
  refine e75 rfl ?_
  try simp only [c75, r75_0, r75_1, r75_2, r75_3, r75_4, r75_5, r75_6, r75_7, r75_8, r75_9, r75_10, r75_11, r75_12, r75_13, pm, pmW, pmB, ft, ↓reduceIte, reduceCtorEq, nE, nA, nM, nD, nL, iL, iT, iE, iN, iC]
  refine BaseR _ _ ?_
  unfold backT at k
  rw [baseP]
  cases h1 : (baseF lets c).2.2
  · rw [h1, if_neg (by simp)] at k
    try simp only [pm, pmW, pmB, ft, ↓reduceIte, reduceCtorEq, nE, nA, nM, nD, nL, iL, iT, iE, iN, iC]
    refine PartedR _ _ ?_
    rw [t3]
    cases h2 : (partP ligs c).2.2
    · rw [h2, if_neg (by simp)] at k
      try simp only [pm, pmW, pmB, ft, ↓reduceIte, reduceCtorEq, nE, nA, nM, nD, nL, iL, iT, iE, iN, iC]
      refine FMarkR _ _ ?_
      rw [t3b]
      cases h3 : (markP accs c).2.2
      · rw [h3, if_neg (by simp)] at k
        try simp only [pm, pmW, pmB, ft, ↓reduceIte, reduceCtorEq, nE, nA, nM, nD, nL, iL, iT, iE, iN, iC]
        refine UnpileR _ _ ?_
        rw [t2]
        cases h4 : (unpP pils c).2
        · rw [h4, if_neg (by simp)] at k
          try simp only [pm, pmW, pmB, ft, ↓reduceIte, reduceCtorEq, nE, nA, nM, nD, nL, iL, iT, iE, iN, iC]
          exact finK_rf k
        · rw [h4, if_pos rfl] at k
          try simp only [pm, pmW, pmB, ft, ↓reduceIte, reduceCtorEq, nE, nA, nM, nD, nL, iL, iT, iE, iN, iC]
          exact finK_rf k
      · rw [h3, if_pos rfl] at k
        try simp only [pm, pmW, pmB, ft, ↓reduceIte, reduceCtorEq, nE, nA, nM, nD, nL, iL, iT, iE, iN, iC]
        exact finK_rf k
    · rw [h2, if_pos rfl] at k
      try simp only [pm, pmW, pmB, ft, ↓reduceIte, reduceCtorEq, nE, nA, nM, nD, nL, iL, iT, iE, iN, iC]
      exact finK_rf k
  · rw [h1, if_pos rfl] at k
    try simp only [pm, pmW, pmB, ft, ↓reduceIte, reduceCtorEq, nE, nA, nM, nD, nL, iL, iT, iE, iN, iC]
    exact finK_rf k
def cellJ (X : List Int) (i : Nat) : List PV := (X.take i).map (fun c => cellF (backT c)) ++ List.replicate (X.length - i) .nils
theorem cellJ_len (X : List Int) {i : Nat} (h : i ≤ X.length) : (cellJ X i).length = X.length := by
  unfold cellJ
  rw [List.length_append, List.length_map, List.length_take, List.length_replicate]; omega
theorem cellJ_step (X : List Int) {i : Nat} (h : i < X.length) : (cellJ X i).set i (cellF (backT (X.getD i default))) = cellJ X (i + 1) := by
  unfold cellJ
  have e : X.take (i + 1) = X.take i ++ [X.getD i default] := by
    rw [List.take_add_one, List.getD, List.getElem?_eq_getElem h]; rfl
  have hl : ((X.take i).map fun c => cellF (backT c)).length = i := by rw [List.length_map, List.length_take]; omega
  rw [List.set_append_right _ _ (by omega), hl, Nat.sub_self, e, List.map_append, List.append_assoc, show X.length - i = (X.length - (i + 1)) + 1 by omega, List.replicate_succ]
  rfl
theorem cellJ_all (X : List Int) : cellJ X X.length = X.map fun c => cellF (backT c) := by
  unfold cellJ
  rw [Nat.sub_self, List.take_length]; simp
theorem backR18 (fr : Bool) (X : List Int) (hl : X.length ≤ 100000) (h : Heap) {K : PV → Heap → Prop} (k : ∀ f b, h.f b = none → K (.tup [cellsV f b X.length, .int .i64 0]) (h.set b (X.map fun c => cellF (backT c)))) :
    CanP Tryz.prog 35 [.list fr 1 X.length (X.map (.int .i64))] h K := by
  refine e35 rfl ?_
  have h1 : ¬ (16777216 : Int) < (X.length : Int) := by omega
  try simp only [c35, r35_0, r35_1, r35_2, r35_3, r35_4, r35_5, r35_6, r35_7, r35_8, h1, pm, pmW, pmB, ft, ↓reduceIte, reduceCtorEq, nE, nA, nM, nD, nL, iL, iT, iE, iN, iC]
  refine cellsNewR _ hl _ fun b hb => ?_
  try simp only [pm, pmW, pmB, ft, ↓reduceIte, reduceCtorEq, nE, nA, nM, nD, nL, iL, iT, iE, iN, iC]
  refine pwp_up X.length (fun i σ h' => h' = h.set b (cellJ X i) ∧ (∃ f, σ 4 = cellsV f b X.length) ∧ σ 0 = .list false 1 X.length (X.map (.int .i64)) ∧ σ 6 = .int .i64 i) ?_ ?_
  · refine ⟨?_, ⟨_, by simp [put]; rfl⟩, rfl, by simp [put]⟩
    unfold cellJ
    simp
  rintro i σ h' K' hi ⟨rfl, ⟨f4, s4⟩, s0, s6⟩ next
  rcases Nat.lt_or_ge i X.length with hlt | hge
  · have hw : IntKind.i64.wrap ((i : Int) + 1) = (i : Int) + 1 := wrap_in (by omega) (by omega)
    have hx := getm (PV.int .i64) X hlt
    have hst := cellJ_step X hlt
    generalize X.getD i default = c at *
    have hbl := back_len c
    try simp only [s0, s4, s6, hlt, hx, pm, pmW, pmB, ft, ↓reduceIte, reduceCtorEq, nE, nA, nM, nD, nL, iL, iT, iE, iN, iC]
    refine partsR18 _ _ ?_
    try simp only [s4, s6, pm, pmW, pmB, ft, ↓reduceIte, reduceCtorEq, nE, nA, nM, nD, nL, iL, iT, iE, iN, iC]
    refine cellsSetR _ _ b X.length i hlt (cellJ X i) (cellJ_len X hi) (backT c) (by omega) (by omega) _ (Heap.set_same _ _ _) ?_
    rw [Heap.set_set, hst]
    try simp only [s6, hw, pm, pmW, pmB, ft, ↓reduceIte, reduceCtorEq, nE, nA, nM, nD, nL, iL, iT, iE, iN, iC]
    refine next hlt _ _ ?_
    exact ⟨rfl, ⟨f4, by simp [put, s4]⟩, by simp [put, s0], by simp [put]⟩
  · have e : i = X.length := by omega
    subst e
    have hnl := Nat.lt_irrefl X.length
    rw [cellJ_all]
    try simp only [s0, s4, s6, hnl, pm, pmW, pmB, ft, ↓reduceIte, reduceCtorEq, nE, nA, nM, nD, nL, iL, iT, iE, iN, iC]
    refine finK_rf ?_
    exact k _ b hb
theorem cellsTextR (f : Bool) (b : Nat) (Z : List (List Int)) (hl : Z.flatten.length ≤ 1000000) (hn : Z.length ≤ 100000) (h : Heap) (hb : h.f b = some (Z.map cellF)) {K : PV → Heap → Prop} (k : K (.list true 1 Z.flatten.length (Z.flatten.map (.int .i64))) h) :
    CanP Tryz.prog 38 [cellsV f b Z.length] h K := by
  refine e38 rfl ?_
  try simp only [c38, r38_0, r38_1, r38_2, r38_3, r38_4, r38_5, r38_6, cellsV, pm, pmW, pmB, ft, ↓reduceIte, reduceCtorEq, nE, nA, nM, nD, nL, iL, iT, iE, iN, iC]
  refine pwp_up Z.length (fun i σ h' => Acc h h' (σ 3) 1 (Z.take i).flatten.length ((Z.take i).flatten.map (.int .i64)) ∧ h.le h' ∧ σ 0 = cellsV false b Z.length ∧ σ 4 = .int .i64 i) ?_ ?_
  · exact ⟨Acc.nil _ _ _, Heap.le_refl _, rfl, by simp [put]⟩
  rintro i σ h' K' hi ⟨a, lh, s0, s4⟩ next
  rw [cellsV] at s0
  rcases Nat.lt_or_ge i Z.length with hlt | hge
  · have hw : IntKind.i64.wrap ((i : Int) + 1) = (i : Int) + 1 := wrap_in (by omega) (by omega)
    have hf := flat_take (ls := Z) hlt
    have hle := flat_le (ls := Z) (i + 1)
    rw [hf, List.length_append] at hle
    have hx : (Z.map cellF)[i]? = some (cellF (Z.getD i default)) := by
      rw [List.getElem?_map, List.getD, List.getElem?_eq_getElem hlt]; rfl
    have hb' := lh _ _ hb
    generalize Z.getD i default = Y at *
    rw [cellF] at hx
    try simp only [s0, s4, hlt, hb', hx, pm, pmW, pmB, ft, ↓reduceIte, reduceCtorEq, nE, nA, nM, nD, nL, iL, iT, iE, iN, iC]
    refine a.appA lh (by simp) (by omega) (by simp only [maxLen]; omega) fun v' h4 a4 l4 sd => ?_
    try simp only [s4, hw, pm, pmW, pmB, ft, ↓reduceIte, reduceCtorEq, nE, nA, nM, nD, nL, iL, iT, iE, iN, iC]
    refine next hlt _ _ ?_
    refine ⟨?_, l4, by simp [put, s0, cellsV], by simp [put]⟩
    rw [hf, List.length_append, List.map_append]
    simpa [put] using a4
  · have e : i = Z.length := by omega
    subst e
    have hnl := Nat.lt_irrefl Z.length
    rw [List.take_length] at a
    try simp only [s0, s4, hnl, pm, pmW, pmB, ft, ↓reduceIte, reduceCtorEq, nE, nA, nM, nD, nL, iL, iT, iE, iN, iC]
    refine a.fin lh ?_
    rw [olds_ints]; exact k
end Go.Proofs.YtcgaphmndnmfdaaGreat
