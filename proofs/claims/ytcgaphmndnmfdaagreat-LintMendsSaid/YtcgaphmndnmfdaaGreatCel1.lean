/-
  Cells (what becomes of each code), and what forms are taken back to: the packages cells and unshape.
  Conditions: a text of at most a hundred thousand codes.
-/
import Derived.Test.YtcgaphmndnmfdaaGreatLinK
import Derived.Test.YtcgaphmndnmfdaaGreatIntsClone
import Derived.Test.YtcgaphmndnmfdaaGreatIntsCat
namespace Go.Proofs.YtcgaphmndnmfdaaGreat
open Go.Pm
open Nat renaming reduceEqDiff → nE, reduceAdd → nA, reduceMul → nM, reduceLeDiff → nD, reduceLT → nL
open Int renaming reduceLE → iL, reduceLT → iT, reduceEq → iE, reduceToNat → iN, cast_ofNat_Int → iC
set_option maxRecDepth 100000
set_option linter.unusedSimpArgs false
set_option linter.unusedVariables false

/-- A cell with codes. -/
def cellL (Y : List Int) : PV := .list true 1 Y.length (Y.map (.int .i64))
def cellsV (f : Bool) (b n : Nat) : PV := .fptr f [.buf b 1 0 n, .nils] 0
theorem old_cellsV (f : Bool) (b n : Nat) : (cellsV f b n).old = cellsV false b n := by simp [cellsV, PV.old, olds]
theorem back_len (c : Int) : (backT c).length ≤ 2 ∧ 1 ≤ (backT c).length := by
  unfold backT
  split
  · simp
  · split
    · simp
    · split
      · simp
      · split <;> simp
theorem cellsNew (n : Nat) (hn : n ≤ 100000) (h : Heap) {K : PV → Heap → Prop} (k : ∀ b, h.f b = none → K (.tup [cellsV true b n, .int .i64 0]) (h.set b (List.replicate n .nils))) :
    CanP Tryz.prog 65 [.int .i64 n] h K := by
  refine e65 rfl ?_
  have h0 : ¬ (n : Int) < 0 := by omega
  have h1 : ¬ (16777216 : Int) < (n : Int) := by omega
  try simp only [c65, r65_0, r65_1, r65_2, r65_3, h0, h1, pm, pmW, pmB, ft, ↓reduceIte, reduceCtorEq, nE, nA, nM, nD, nL, iL, iT, iE, iN, iC]
  refine ⟨Nat.le_refl _, by omega, by omega, fun b hb => ?_⟩
  rw [rep_one]
  exact finK_rf (k b hb)
theorem rowHas (b n i : Nat) (hi : i < n) (h : Heap) {K : PV → Heap → Prop} (k : K (.bool true) h) : CanP Tryz.prog 102 [.buf b 1 0 n, .int .i64 i] h K := by
  refine e102 rfl ?_
  have h1 : (i : Int) < (n : Int) := by omega
  try simp only [c102, r102_0, r102_1, h1, hi, pm, pmW, pmB, ft, ↓reduceIte, reduceCtorEq, nE, nA, nM, nD, nL, iL, iT, iE, iN, iC]
  exact finK_rf k
theorem cellsSet (f fr : Bool) (b n i : Nat) (hi : i < n) (cs : List PV) (hcs : cs.length = n) (Y : List Int) (hY : Y.length ≤ 100) (h : Heap) (hb : h.f b = some cs) {K : PV → Heap → Prop} (k : K (.int .i64 0) (h.set b (cs.set i (cellL Y)))) :
    CanP Tryz.prog 66 [cellsV f b n, .int .i64 i, .list fr 1 Y.length (Y.map (.int .i64))] h K := by
  refine e66 rfl ?_
  try simp only [c66, r66_0, r66_1, r66_2, r66_3, r66_4, cellsV, pm, pmW, pmB, ft, ↓reduceIte, reduceCtorEq, nE, nA, nM, nD, nL, iL, iT, iE, iN, iC]
  refine rowHas b n i hi _ ?_
  try simp only [pm, pmW, pmB, ft, ↓reduceIte, reduceCtorEq, nE, nA, nM, nD, nL, iL, iT, iE, iN, iC]
  refine ⟨_, CloneF _ Y (by omega) _ ⟨rfl, rfl⟩, ?_⟩
  try simp only [hb, hi, hcs, pm, pmW, pmB, ft, ↓reduceIte, reduceCtorEq, nE, nA, nM, nD, nL, iL, iT, iE, iN, iC]
  refine ⟨by omega, ?_⟩
  rw [wr_one (by omega)]
  exact finK_rf k
theorem unParts (c : Int) (h : Heap) {K : PV → Heap → Prop} (k : K (.list true 1 (backT c).length ((backT c).map (.int .i64))) h) :
    CanP Tryz.prog 67 [.int .i64 c] h K := by
  refine e67 rfl ?_
  try simp only [c67, r67_0, r67_1, r67_2, r67_3, r67_4, r67_5, r67_6, r67_7, r67_8, r67_9, r67_10, r67_11, r67_12, r67_13, pm, pmW, pmB, ft, ↓reduceIte, reduceCtorEq, nE, nA, nM, nD, nL, iL, iT, iE, iN, iC]
  refine Base _ _ ?_
  unfold backT at k
  rw [baseP]
  cases h1 : (baseF lets c).2.2
  · rw [h1, if_neg (by simp)] at k
    try simp only [pm, pmW, pmB, ft, ↓reduceIte, reduceCtorEq, nE, nA, nM, nD, nL, iL, iT, iE, iN, iC]
    refine Parted _ _ ?_
    rw [t3]
    cases h2 : (partP ligs c).2.2
    · rw [h2, if_neg (by simp)] at k
      try simp only [pm, pmW, pmB, ft, ↓reduceIte, reduceCtorEq, nE, nA, nM, nD, nL, iL, iT, iE, iN, iC]
      refine FMark _ _ ?_
      rw [t3b]
      cases h3 : (markP accs c).2.2
      · rw [h3, if_neg (by simp)] at k
        try simp only [pm, pmW, pmB, ft, ↓reduceIte, reduceCtorEq, nE, nA, nM, nD, nL, iL, iT, iE, iN, iC]
        refine Unpile _ _ ?_
        rw [t2]
        cases h4 : (unpP pils c).2
        · rw [h4, if_neg (by simp)] at k
          try simp only [pm, pmW, pmB, ft, ↓reduceIte, reduceCtorEq, nE, nA, nM, nD, nL, iL, iT, iE, iN, iC]
          exact finK_rf k
        · rw [h4, if_pos rfl] at k
          try simp only [pm, pmW, pmB, ft, ↓reduceIte, reduceCtorEq, nE, nA, nM, nD, nL, iL, iT, iE, iN, iC]
          exact finK_rf k
      · rw [h3, if_pos rfl] at k
        try simp only [pm, pmW, pmB, ft, ↓reduceIte, reduceCtorEq, nE, nA, nM, nD, nL, iL, iT, iE, iN, iC]
        exact finK_rf k
    · rw [h2, if_pos rfl] at k
      try simp only [pm, pmW, pmB, ft, ↓reduceIte, reduceCtorEq, nE, nA, nM, nD, nL, iL, iT, iE, iN, iC]
      exact finK_rf k
  · rw [h1, if_pos rfl] at k
    try simp only [pm, pmW, pmB, ft, ↓reduceIte, reduceCtorEq, nE, nA, nM, nD, nL, iL, iT, iE, iN, iC]
    exact finK_rf k
/-- The first cells with their codes, the rest without. -/
def cellI (X : List Int) (i : Nat) : List PV := (X.take i).map (fun c => cellL (backT c)) ++ List.replicate (X.length - i) .nils
theorem cellI_len (X : List Int) {i : Nat} (h : i ≤ X.length) : (cellI X i).length = X.length := by
  unfold cellI
  rw [List.length_append, List.length_map, List.length_take, List.length_replicate]; omega
theorem cellI_step (X : List Int) {i : Nat} (h : i < X.length) : (cellI X i).set i (cellL (backT (X.getD i default))) = cellI X (i + 1) := by
  unfold cellI
  have e : X.take (i + 1) = X.take i ++ [X.getD i default] := by
    rw [List.take_add_one, List.getD, List.getElem?_eq_getElem h]; rfl
  have hl : ((X.take i).map fun c => cellL (backT c)).length = i := by rw [List.length_map, List.length_take]; omega
  rw [List.set_append_right _ _ (by omega), hl, Nat.sub_self, e, List.map_append, List.append_assoc, show X.length - i = (X.length - (i + 1)) + 1 by omega, List.replicate_succ]
  rfl
theorem cellI_all (X : List Int) : cellI X X.length = X.map fun c => cellL (backT c) := by
  unfold cellI
  rw [Nat.sub_self, List.take_length]; simp
theorem unBack (fr : Bool) (X : List Int) (hl : X.length ≤ 100000) (h : Heap) {K : PV → Heap → Prop} (k : ∀ f b, h.f b = none → K (.tup [cellsV f b X.length, .int .i64 0]) (h.set b (X.map fun c => cellL (backT c)))) :
    CanP Tryz.prog 30 [.list fr 1 X.length (X.map (.int .i64))] h K := by
  refine e30 rfl ?_
  try simp only [c30, r30_0, r30_1, r30_2, r30_3, r30_4, r30_5, r30_6, r30_7, r30_8, r30_9, pm, pmW, pmB, ft, ↓reduceIte, reduceCtorEq, nE, nA, nM, nD, nL, iL, iT, iE, iN, iC]
  refine cellsNew _ hl _ fun b hb => ?_
  try simp only [pm, pmW, pmB, ft, ↓reduceIte, reduceCtorEq, nE, nA, nM, nD, nL, iL, iT, iE, iN, iC]
  refine pwp_up X.length (fun i σ h' => h' = h.set b (cellI X i) ∧ (∃ f, σ 4 = cellsV f b X.length) ∧ σ 16 = .list false 1 X.length (X.map (.int .i64)) ∧ σ 17 = .int .i64 X.length ∧ σ 18 = .int .i64 i) ?_ ?_
  · refine ⟨?_, ⟨_, by simp [put]; rfl⟩, by simp [put], by simp [put], by simp [put]⟩
    unfold cellI
    simp
  rintro i σ h' K' hi ⟨rfl, ⟨f4, s4⟩, s16, s17, s18⟩ next
  rcases Nat.lt_or_ge i X.length with hlt | hge
  · have hw : IntKind.i64.wrap ((i : Int) + 1) = (i : Int) + 1 := wrap_in (by omega) (by omega)
    have hx := getm (PV.int .i64) X hlt
    have hst := cellI_step X hlt
    generalize X.getD i default = c at *
    have hbl := back_len c
    try simp only [s4, s16, s17, s18, hlt, hx, pm, pmW, pmB, ft, ↓reduceIte, reduceCtorEq, nE, nA, nM, nD, nL, iL, iT, iE, iN, iC]
    refine unParts _ _ ?_
    try simp only [s4, pm, pmW, pmB, ft, ↓reduceIte, reduceCtorEq, nE, nA, nM, nD, nL, iL, iT, iE, iN, iC]
    refine cellsSet _ _ b X.length i hlt (cellI X i) (cellI_len X hi) (backT c) (by omega) _ (Heap.set_same _ _ _) ?_
    rw [Heap.set_set, hst]
    try simp only [s18, hw, pm, pmW, pmB, ft, ↓reduceIte, reduceCtorEq, nE, nA, nM, nD, nL, iL, iT, iE, iN, iC]
    refine next hlt _ _ ?_
    exact ⟨rfl, ⟨f4, by simp [put, s4]⟩, by simp [put, s16], by simp [put, s17], by simp [put]⟩
  · have e : i = X.length := by omega
    subst e
    have hnl := Nat.lt_irrefl X.length
    rw [cellI_all]
    try simp only [s4, s17, s18, hnl, pm, pmW, pmB, ft, ↓reduceIte, reduceCtorEq, nE, nA, nM, nD, nL, iL, iT, iE, iN, iC]
    exact finK_rf (k _ b hb)
theorem old_cell (Y : List Int) : (cellL Y).old = .list false 1 Y.length (Y.map (.int .i64)) := by simp [cellL, PV.old, olds_ints]
theorem olds_cells (Z : List (List Int)) : olds (Z.map cellL) = Z.map fun Y => .list false 1 Y.length (Y.map (.int .i64)) := by
  induction Z with
  | nil => rfl
  | cons Y Z ih => rw [List.map_cons, olds, old_cell, ih]; rfl
theorem rows_cells (h : Heap) : ∀ Z : List (List Int), Rows h (Z.map fun Y => PV.list false 1 Y.length (Y.map (.int .i64))) Z
  | [] => trivial
  | Y :: Z => ⟨.inr (.inl ⟨_, rfl⟩), rows_cells h Z⟩
theorem cellsText (f : Bool) (b : Nat) (Z : List (List Int)) (hl : Z.flatten.length ≤ 1000000) (hn : Z.length ≤ 100000) (h : Heap) (hb : h.f b = some (Z.map cellL)) {K : PV → Heap → Prop} (k : K (.list true 1 Z.flatten.length (Z.flatten.map (.int .i64))) (h.kill b)) :
    CanP Tryz.prog 33 [cellsV f b Z.length] h K := by
  refine e33 rfl ?_
  have hle : Z.length ≤ (Z.map cellL).length := by simp
  have hz : (Z.map cellL).take Z.length = Z.map cellL := List.take_of_length_le (by simp)
  have key : ∀ {K : PV → Heap → Prop} {h : Heap}, K (.list true 1 Z.flatten.length (Z.flatten.map (.int .i64))) h → CanP Tryz.prog 70 [.list false 1 Z.length (Z.map fun Y => PV.list false 1 Y.length (Y.map (.int .i64)))] h K := fun {K h} k => by
    have := ConcatI false (Z.map fun Y => PV.list false 1 Y.length (Y.map (.int .i64))) Z hl (by simp; omega) h (rows_cells h Z) k
    rwa [List.length_map] at this
  try simp only [c33, r33_0, r33_1, r33_2, r33_3, cellsV, hb, hle, hz, olds_cells, pm, pmW, pmB, ft, ↓reduceIte, reduceCtorEq, nE, nA, nM, nD, nL, iL, iT, iE, iN, iC]
  refine key ?_
  try simp only [pm, pmW, pmB, ft, ↓reduceIte, reduceCtorEq, nE, nA, nM, nD, nL, iL, iT, iE, iN, iC]
  exact finK_rf k
end Go.Proofs.YtcgaphmndnmfdaaGreat
