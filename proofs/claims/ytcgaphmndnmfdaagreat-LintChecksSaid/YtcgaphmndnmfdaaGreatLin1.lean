/-
  What is odd at a place of a text (lint): the package's walk.
  Conditions: a text of at most a thousand codes.
-/
import Derived.Test.YtcgaphmndnmfdaaGreatLinK
import Derived.Test.YtcgaphmndnmfdaaGreatIntsBin
namespace Go.Proofs.YtcgaphmndnmfdaaGreat
open Go.Pm
open Nat renaming reduceEqDiff → nE, reduceAdd → nA, reduceMul → nM, reduceLeDiff → nD, reduceLT → nL
open Int renaming reduceLE → iL, reduceLT → iT, reduceEq → iE, reduceToNat → iN, cast_ofNat_Int → iC
set_option maxRecDepth 100000
set_option linter.unusedSimpArgs false
set_option linter.unusedVariables false

/-- A text that is looked at; a paragraph of it. -/
def textV (f : Bool) (p c : PV) (X : List Int) : PV := .fptr f [p, c, .list false 1 X.length (X.map (.int .i64))] 0
def partV (f g : Bool) (t : PV) (s : Int × Int) (O L : List Int) : PV := .fptr f [t, .int .i64 s.1, .int .i64 s.2, .list g 1 O.length (O.map (.int .i64)), .list g 1 L.length (L.map (.int .i64))] 0
theorem old_textV (f : Bool) (p c : PV) (X : List Int) : (textV f p c X).old = textV false p.old c.old X := by simp [textV, PV.old, olds, olds_ints]
theorem old_partV (f g : Bool) (t : PV) (s : Int × Int) (O L : List Int) : (partV f g t s O L).old = partV false false t.old s O L := by simp [partV, PV.old, olds, olds_ints]
theorem low_mem {L : List Int} (hs : ∀ i j, i ≤ j → j < L.length → L.getD i default ≤ L.getD j default) {x : Int} {p : Nat} (hp : Low L x p) : decide (p < L.length ∧ L.getD p default = x) = decide (x ∈ L) := by
  obtain ⟨h1, h2, h3⟩ := hp
  rw [decide_eq_decide]
  constructor
  · rintro ⟨a, b⟩
    rw [← b]; exact get_mem L a
  · intro hx
    obtain ⟨q, hq, e⟩ := List.mem_iff_getElem.1 hx
    have eq : L.getD q default = x := by simpa [List.getD, hq] using e
    have hpq : p ≤ q := by
      rcases Nat.lt_or_ge q p with g | g
      · have := h2 q g; omega
      · exact g
    refine ⟨by omega, ?_⟩
    have a := h3 p (Nat.le_refl _) (by omega)
    have b := hs p q hpq hq
    omega
theorem open_asc (C : List Int) : ∀ i j, i ≤ j → j < (openT C).length → (openT C).getD i default ≤ (openT C).getD j default := fun i j h1 h2 => by
  have tr : ∀ a b c : Int, decide (a ≤ b) = true → decide (b ≤ c) = true → decide (a ≤ c) = true := fun a b c h1 h2 => by simp at *; omega
  have to : ∀ a b : Int, (decide (a ≤ b) || decide (b ≤ a)) = true := fun a b => by simp; omega
  have hp : (openT C).Pairwise (fun x y => decide (x ≤ y) = true) := by rw [openT]; exact List.pairwise_mergeSort tr to _
  by_cases e : i = j
  · rw [e]; omega
  · have := List.pairwise_iff_getElem.1 hp i j (by omega) h2 (by omega)
    have hi : i < (openT C).length := by omega
    have a : (openT C).getD i default = (openT C)[i] := by simp [List.getD, hi]
    have b : (openT C).getD j default = (openT C)[j] := by simp [List.getD, h2]
    rw [a, b]; simpa using this
theorem loose_asc (C : List Int) : ∀ i j, i ≤ j → j < (wkT C).ls.length → (wkT C).ls.getD i default ≤ (wkT C).ls.getD j default := asc_get (ls_asc C C.length (Nat.le_refl _)).1
theorem open_len (C : List Int) : (openT C).length ≤ C.length := by
  obtain ⟨-, ok2⟩ := wkT_ok C
  rw [openT, List.length_mergeSort, List.length_append]; omega
theorem loose_len (C : List Int) : (wkT C).ls.length ≤ C.length := by
  obtain ⟨-, ok2⟩ := wkT_ok C
  omega
theorem lintPart (f : Bool) (p : PV) (hp : PR p) (hp2 : p.old = p) (c : PV) (hcf : Pm.flat c = some [c]) (hc2 : c.old = c) (X : List Int) (hl : X.length ≤ 1000) (s : Int × Int) (hs : 0 ≤ s.1 ∧ s.1 < s.2 ∧ s.2 ≤ (X.length : Int)) (h : Heap) {K : PV → Heap → Prop}
    (k : K (partV true true (textV false p c X) s (openT (cls (cutS X s))) (wkT (cls (cutS X s))).ls) h) :
    CanP Tryz.prog 19 [textV f p c X, .agg (sp s)] h K := by
  refine e19 rfl ?_
  have hcl := cut_le X s
  have hlc := cls_len (cutS X s)
  try simp only [c19, r19_0, r19_1, r19_2, textV, sp, hp2, hc2, pm, pmW, pmB, ft, ↓reduceIte, reduceCtorEq, nE, nA, nM, nD, nL, iL, iT, iE, iN, iC]
  rw [slcS hs.1 (by omega) hs.2.2]
  try simp only [hp2, hc2, pm, pmW, pmB, ft, ↓reduceIte, reduceCtorEq, nE, nA, nM, nD, nL, iL, iT, iE, iN, iC]
  refine ⟨_, Classes _ hp _ (cutS X s) (by omega) _ ⟨rfl, rfl⟩, ?_⟩
  rw [show (cutS X s).map classT = cls (cutS X s) from rfl, ← hlc]
  try simp only [pm, pmW, pmB, ft, ↓reduceIte, reduceCtorEq, nE, nA, nM, nD, nL, iL, iT, iE, iN, iC]
  refine ⟨_, Open _ (cls (cutS X s)) (by omega) _ ⟨rfl, rfl⟩, ?_⟩
  try simp only [pm, pmW, pmB, ft, ↓reduceIte, reduceCtorEq, nE, nA, nM, nD, nL, iL, iT, iE, iN, iC]
  refine ⟨_, LooseT _ (cls (cutS X s)) (by omega) _ ⟨rfl, rfl⟩, ?_⟩
  try simp only [pm, pmW, pmB, ft, ↓reduceIte, reduceCtorEq, nE, nA, nM, nD, nL, iL, iT, iE, iN, iC]
  exact finK_rf k
theorem lintTold (f g fr : Bool) (t : PV) (s : Int × Int) (O L M : List Int) (hM : M.length ≤ 1000000) (hs : ∀ i j, i ≤ j → j < M.length → M.getD i default ≤ M.getD j default) (i : Nat) (hi : i ≤ 1000) (h0 : 0 ≤ s.1 ∧ s.1 ≤ 1000) (h : Heap) {K : PV → Heap → Prop}
    (k : K (.bool (decide ((i : Int) - s.1 ∈ M))) h) :
    CanP Tryz.prog 50 [partV f g t s O L, .list fr 1 M.length (M.map (.int .i64)), .int .i64 i] h K := by
  refine e50 rfl ?_
  have hw : IntKind.i64.wrap ((i : Int) - s.1) = (i : Int) - s.1 := wrap_in (by omega) (by omega)
  try simp only [c50, r50_0, r50_1, r50_2, partV, hw, pm, pmW, pmB, ft, ↓reduceIte, reduceCtorEq, nE, nA, nM, nD, nL, iL, iT, iE, iN, iC]
  refine BinSearch _ M (by omega) hs _ _ fun p hp => ?_
  rw [low_mem hs hp]
  try simp only [pm, pmW, pmB, ft, ↓reduceIte, reduceCtorEq, nE, nA, nM, nD, nL, iL, iT, iE, iN, iC]
  exact finK_rf k
theorem lintIll (f : Bool) (p c : PV) (X : List Int) (i : Nat) (hi : i < X.length) (h : Heap) {K : PV → Heap → Prop} (k : K (.bool (illT (at0 X i))) h) :
    CanP Tryz.prog 49 [textV f p c X, .int .i64 i] h K := by
  refine e49 rfl ?_
  have hx := getm (PV.int .i64) X hi
  rw [show X.getD i default = at0 X i from rfl] at hx
  generalize at0 X i = x at *
  rw [illT] at k
  cases h1 : decide (x < 0)
  · rw [h1, Bool.false_or] at k
    try simp only [c49, r49_0, r49_1, textV, hi, hx, h1, pm, pmW, pmB, ft, ↓reduceIte, reduceCtorEq, nE, nA, nM, nD, nL, iL, iT, iE, iN, iC]
    exact finK_rf k
  · rw [h1, Bool.true_or] at k
    try simp only [c49, r49_0, r49_1, textV, hi, hx, h1, pm, pmW, pmB, ft, ↓reduceIte, reduceCtorEq, nE, nA, nM, nD, nL, iL, iT, iE, iN, iC]
    exact finK_rf k
theorem lintBare (f g f2 : Bool) (p : PV) (hp : PR p) (hp2 : p.old = p) (c : PV) (hc2 : c.old = c) (X : List Int) (hl : X.length ≤ 1000) (s : Int × Int) (O L : List Int) (i : Nat) (hi : i < X.length) (hs : 0 ≤ s.1 ∧ s.1 ≤ i) (h : Heap) {K : PV → Heap → Prop} (k : K (.bool (bareT X s i)) h) :
    CanP Tryz.prog 52 [partV f g (textV f2 p c X) s O L, .int .i64 i] h K := by
  refine e52 rfl ?_
  have hx := getm (PV.int .i64) X hi
  rw [show X.getD i default = at0 X i from rfl] at hx
  rw [bareT] at k
  try simp only [c52, r52_0, r52_1, r52_2, r52_3, r52_4, r52_5, r52_6, r52_7, r52_8, r52_9, r52_10, partV, textV, hp2, hc2, hi, hx, pm, pmW, pmB, ft, ↓reduceIte, reduceCtorEq, nE, nA, nM, nD, nL, iL, iT, iE, iN, iC]
  refine ⟨_, Mark _ hp _ _ ⟨rfl, rfl⟩, ?_⟩
  cases h1 : markT (at0 X i)
  · rw [h1, Bool.false_and] at k
    try simp only [pm, pmW, pmB, ft, ↓reduceIte, reduceCtorEq, nE, nA, nM, nD, nL, iL, iT, iE, iN, iC]
    exact finK_rf k
  · rw [h1, Bool.true_and] at k
    by_cases h2 : (i : Int) = s.1
    · have hd : decide ((i : Int) = s.1) = true := decide_eq_true h2
      rw [hd, Bool.true_or] at k
      try simp only [hd, pm, pmW, pmB, ft, ↓reduceIte, reduceCtorEq, nE, nA, nM, nD, nL, iL, iT, iE, iN, iC]
      exact finK_rf k
    · have hd : decide ((i : Int) = s.1) = false := decide_eq_false h2
      rw [hd, Bool.false_or, spaceT] at k
      have hw : IntKind.i64.wrap ((i : Int) - 1) = ((i - 1 : Nat) : Int) := by rw [wrap_in (by omega) (by omega)]; omega
      have hi2 : i - 1 < X.length := by omega
      have hx2 := getm (PV.int .i64) X hi2
      rw [show X.getD (i - 1) default = at0 X (i - 1) from rfl] at hx2
      try simp only [hd, hw, hi2, hx2, hp2, hc2, pm, pmW, pmB, ft, ↓reduceIte, reduceCtorEq, nE, nA, nM, nD, nL, iL, iT, iE, iN, iC]
      refine ⟨_, Class _ hp _ _ ⟨rfl, rfl⟩, ?_⟩
      generalize classT (at0 X (i - 1)) = y at *
      cases h3 : decide (y = 10)
      · cases h4 : decide (y = 11)
        · cases h5 : decide (y = 12)
          · rw [h3, h4, h5] at k
            try simp only [h3, h4, h5, pm, pmW, pmB, ft, ↓reduceIte, reduceCtorEq, nE, nA, nM, nD, nL, iL, iT, iE, iN, iC]
            exact finK_rf k
          · rw [h3, h4, h5] at k
            try simp only [h3, h4, h5, pm, pmW, pmB, ft, ↓reduceIte, reduceCtorEq, nE, nA, nM, nD, nL, iL, iT, iE, iN, iC]
            exact finK_rf k
        · rw [h3, h4] at k
          try simp only [h3, h4, pm, pmW, pmB, ft, ↓reduceIte, reduceCtorEq, nE, nA, nM, nD, nL, iL, iT, iE, iN, iC]
          exact finK_rf k
      · rw [h3] at k
        try simp only [h3, pm, pmW, pmB, ft, ↓reduceIte, reduceCtorEq, nE, nA, nM, nD, nL, iL, iT, iE, iN, iC]
        exact finK_rf k
theorem slcN {k : Option Nat} {fr : Bool} {X : List Int} {lo hi : Nat} {K : Kt} {h : Heap} (h1 : lo ≤ hi) (h2 : hi ≤ X.length) : slcK k (some 1) (.list fr 1 X.length (X.map (.int .i64))) (some (.int .i64 (lo : Int))) (some (.int .i64 (hi : Int))) K h = K (.list fr 1 (cutS X (lo, hi)).length ((cutS X (lo, hi)).map (.int .i64))) h :=
  slcS (q := ((lo : Int), (hi : Int))) (by show (0 : Int) ≤ lo; omega) (by show (lo : Int) ≤ hi; omega) (by show (hi : Int) ≤ _; omega)
theorem cut_two (X : List Int) {i : Nat} (h0 : 0 < i) (hi : i < X.length) : cutS X (((i - 1 : Nat) : Int), ((i + 1 : Nat) : Int)) = [at0 X (i - 1), at0 X i] := by
  unfold cutS
  show (X.drop (i - 1)).take (i + 1 - (i - 1)) = _
  rw [drop_getD X (show i - 1 < X.length by omega), show i - 1 + 1 = i by omega, drop_getD X hi, show i + 1 - (i - 1) = 2 by omega]
  rfl
theorem cut_three (X : List Int) {i : Nat} (h0 : 2 ≤ i) (hi : i < X.length) : cutS X (((i - 2 : Nat) : Int), ((i + 1 : Nat) : Int)) = [at0 X (i - 2), at0 X (i - 1), at0 X i] := by
  unfold cutS
  show (X.drop (i - 2)).take (i + 1 - (i - 2)) = _
  rw [drop_getD X (show i - 2 < X.length by omega), show i - 2 + 1 = i - 1 by omega, drop_getD X (show i - 1 < X.length by omega), show i - 1 + 1 = i by omega, drop_getD X hi, show i + 1 - (i - 2) = 3 by omega]
  rfl
theorem lintBehind (f : Bool) (p : PV) (hp2 : p.old = p) (c : PV) (q : Int → Int) (hc : CO c q) (hc2 : c.old = c) (X : List Int) (hl : X.length ≤ 1000) (i : Nat) (hi : i < X.length) (h : Heap) {K : PV → Heap → Prop} (k : K (.bool (behT q X i)) h) :
    CanP Tryz.prog 53 [textV f p c X, .int .i64 i] h K := by
  refine e53 rfl ?_
  rw [behT] at k
  by_cases h0 : 0 < i
  · have h0' : (0 : Int) < (i : Int) := by omega
    have hw : IntKind.i64.wrap ((i : Int) - 1) = ((i - 1 : Nat) : Int) := by rw [wrap_in (by omega) (by omega)]; omega
    have hw2 : IntKind.i64.wrap ((i : Int) + 1) = ((i + 1 : Nat) : Int) := by rw [wrap_in (by omega) (by omega)]; omega
    rw [decide_eq_true h0, Bool.true_and] at k
    try simp only [c53, r53_0, r53_1, textV, hp2, hc2, h0', hw, hw2, pm, pmW, pmB, ft, ↓reduceIte, reduceCtorEq, nE, nA, nM, nD, nL, iL, iT, iE, iN, iC]
    rw [slcN (by omega) (by omega), cut_two X h0 hi]
    try simp only [hc2, pm, pmW, pmB, ft, ↓reduceIte, reduceCtorEq, nE, nA, nM, nD, nL, iL, iT, iE, iN, iC]
    refine ⟨_, Ordered _ q hc _ [at0 X (i - 1), at0 X i] (by simp) _ ⟨rfl, rfl⟩, ?_⟩
    rw [show ordB q [at0 X (i - 1), at0 X i] = befT q (at0 X (i - 1)) (at0 X i) by simp [ordB]]
    try simp only [pm, pmW, pmB, ft, ↓reduceIte, reduceCtorEq, nE, nA, nM, nD, nL, iL, iT, iE, iN, iC]
    exact finK_rf k
  · have h0' : ¬ (0 : Int) < (i : Int) := by omega
    rw [decide_eq_false h0, Bool.false_and] at k
    try simp only [c53, r53_0, r53_1, textV, hp2, hc2, h0', pm, pmW, pmB, ft, ↓reduceIte, reduceCtorEq, nE, nA, nM, nD, nL, iL, iT, iE, iN, iC]
    exact finK_rf k
theorem lintMixed (f : Bool) (p : PV) (hp : PR p) (hp2 : p.old = p) (c : PV) (hc2 : c.old = c) (X : List Int) (hl : X.length ≤ 1000) (i : Nat) (hi : i < X.length) (h : Heap) {K : PV → Heap → Prop} (k : K (.bool (mixT X i)) h) :
    CanP Tryz.prog 54 [textV f p c X, .int .i64 i] h K := by
  refine e54 rfl ?_
  rw [mixT] at k
  by_cases h0 : i = 0
  · have h0' : decide ((i : Int) = 0) = true := decide_eq_true (by omega)
    rw [decide_eq_false (by omega), Bool.false_and] at k
    try simp only [c54, r54_0, r54_1, r54_2, r54_3, r54_4, r54_5, textV, hp2, hc2, h0', pm, pmW, pmB, ft, ↓reduceIte, reduceCtorEq, nE, nA, nM, nD, nL, iL, iT, iE, iN, iC]
    exact finK_rf k
  · have h0' : decide ((i : Int) = 0) = false := decide_eq_false (by omega)
    rw [decide_eq_true (by omega), Bool.true_and] at k
    have hw : IntKind.i64.wrap ((i : Int) - 1) = ((i - 1 : Nat) : Int) := by rw [wrap_in (by omega) (by omega)]; omega
    have hi2 : i - 1 < X.length := by omega
    have hx2 := getm (PV.int .i64) X hi2
    rw [show X.getD (i - 1) default = at0 X (i - 1) from rfl] at hx2
    have hx := getm (PV.int .i64) X hi
    rw [show X.getD i default = at0 X i from rfl] at hx
    try simp only [c54, r54_0, r54_1, r54_2, r54_3, r54_4, r54_5, textV, hp2, hc2, h0', hw, hi2, hx2, pm, pmW, pmB, ft, ↓reduceIte, reduceCtorEq, nE, nA, nM, nD, nL, iL, iT, iE, iN, iC]
    refine ⟨_, Digit _ hp _ _ ⟨rfl, rfl⟩, ?_⟩
    try simp only [hp2, hc2, hi, hx, pm, pmW, pmB, ft, ↓reduceIte, reduceCtorEq, nE, nA, nM, nD, nL, iL, iT, iE, iN, iC]
    refine ⟨_, Digit _ hp _ _ ⟨rfl, rfl⟩, ?_⟩
    generalize (digT (at0 X (i - 1))).2 = a at *
    generalize (digT (at0 X i)).2 = b at *
    cases h1 : decide (a = b)
    · rw [show decide (a ≠ b) = true by simpa using h1, Bool.true_and] at k
      cases h2 : decide (a = 0)
      · rw [show decide (a ≠ 0) = true by simpa using h2, Bool.true_and] at k
        cases h3 : decide (b = 0)
        · rw [show decide (b ≠ 0) = true by simpa using h3] at k
          try simp only [h1, h2, h3, pm, pmW, pmB, ft, ↓reduceIte, reduceCtorEq, nE, nA, nM, nD, nL, iL, iT, iE, iN, iC]
          exact finK_rf k
        · rw [show decide (b ≠ 0) = false by simpa using h3] at k
          try simp only [h1, h2, h3, pm, pmW, pmB, ft, ↓reduceIte, reduceCtorEq, nE, nA, nM, nD, nL, iL, iT, iE, iN, iC]
          exact finK_rf k
      · rw [show decide (a ≠ 0) = false by simpa using h2, Bool.false_and] at k
        try simp only [h1, h2, pm, pmW, pmB, ft, ↓reduceIte, reduceCtorEq, nE, nA, nM, nD, nL, iL, iT, iE, iN, iC]
        exact finK_rf k
    · rw [show decide (a ≠ b) = false by simpa using h1, Bool.false_and] at k
      try simp only [h1, pm, pmW, pmB, ft, ↓reduceIte, reduceCtorEq, nE, nA, nM, nD, nL, iL, iT, iE, iN, iC]
      exact finK_rf k
theorem lintOther (x : Int) (h : Heap) {K : PV → Heap → Prop} (k : K (.bool (!decide (x = 1600))) h) : CanP Tryz.prog 71 [.int .i64 x] h K := by
  refine e71 rfl ?_
  try simp only [c71, r71_0, r71_1, pm, pmW, pmB, ft, ↓reduceIte, reduceCtorEq, nE, nA, nM, nD, nL, iL, iT, iE, iN, iC]
  exact finK_rf k
theorem IndexFuncI (fr : Bool) (l : List Int) (hl : l.length ≤ 9223372036854775806) (q : Int → Bool) (g : FuncId) (first caps : List PV)
    (hq : ∀ p ∈ l, ∀ h (K : PV → Heap → Prop), K (.bool (q p)) h → CanP Tryz.prog g (olds first ++ [.int .i64 p] ++ olds caps) h K) (h : Heap) {K : PV → Heap → Prop} (k : K (.int .i64 (findI q l 0)) h) :
    CanP Tryz.prog 117 [.list fr 1 l.length (l.map (.int .i64)), .fn g first caps] h K := by
  refine e117 rfl ?_
  try simp only [c117, r117_0, r117_1, r117_2, r117_3, r117_4, r117_5, r117_6, r117_7, pm, pmW, pmB, ft, ↓reduceIte, reduceCtorEq, nE, nA, nM, nD, nL, iL, iT, iE, iN, iC]
  refine pwp_up l.length (fun i σ h' => h' = h ∧ σ 0 = .list false 1 l.length (l.map (.int .i64)) ∧ σ 1 = .fn g (olds first) (olds caps) ∧ σ 7 = .int .i64 l.length ∧ σ 8 = .int .i64 i ∧ findI q l 0 = findI q (l.drop i) i) ?_ ?_
  · exact ⟨rfl, rfl, rfl, rfl, rfl, rfl⟩
  · rintro i σ h' K' hi' ⟨rfl, s0, s1, s7, s8, hp⟩ next
    try simp only [s0, s1, s7, s8, cdK_dec, pm, pmW, pmB, ft, ↓reduceIte, reduceCtorEq, nE, nA, nM, nD, nL, iL, iT, iE, iN, iC]
    refine ⟨fun hlt => ?_, fun hge => ?_⟩
    · have hx := getm (PV.int .i64) l hlt
      have hm := get_mem l hlt
      rw [drop_getD l hlt] at hp
      generalize l.getD i default = p at *
      try simp only [hx, hlt, s0, s1, s7, s8, pm, pmW, pmB, ft, ↓reduceIte, reduceCtorEq, nE, nA, nM, nD, nL, iL, iT, iE, iN, iC]
      refine hq _ hm _ _ ?_
      cases h1 : q p
      · try simp only [s0, s1, s7, s8, pm, pmW, pmB, ft, ↓reduceIte, reduceCtorEq, nE, nA, nM, nD, nL, iL, iT, iE, iN, iC]
        rw [wrap_in (by omega) (by omega)]
        exact next hlt _ _ ⟨rfl, by simp [put, s0], by simp [put, s1], by simp [put, s7], by simp [put], by simpa [findI, h1] using hp⟩
      · try simp only [s0, s1, s7, s8, pm, pmW, pmB, ft, ↓reduceIte, reduceCtorEq, nE, nA, nM, nD, nL, iL, iT, iE, iN, iC]
        exact finK_le (Heap.le_refl _) (by simpa [hp, findI, h1] using k)
    · try simp only [s0, pm, pmW, pmB, ft, ↓reduceIte, reduceCtorEq, nE, nA, nM, nD, nL, iL, iT, iE, iN, iC]
      exact finK_le (Heap.le_refl _) (by simpa [hp, findI, List.drop_eq_nil_of_le (Nat.le_of_not_lt hge)] using k)
theorem ContainsFuncI (fr : Bool) (l : List Int) (hl : l.length ≤ 9223372036854775806) (q : Int → Bool) (g : FuncId) (first caps : List PV)
    (hq : ∀ p ∈ l, ∀ h (K : PV → Heap → Prop), K (.bool (q p)) h → CanP Tryz.prog g (olds (olds first) ++ [.int .i64 p] ++ olds (olds caps)) h K) (h : Heap) {K : PV → Heap → Prop} (k : K (.bool (l.any q)) h) :
    CanP Tryz.prog 72 [.list fr 1 l.length (l.map (.int .i64)), .fn g first caps] h K := by
  refine e72 rfl ?_
  try simp only [c72, r72_0, r72_1, pm, pmW, pmB, ft, ↓reduceIte, reduceCtorEq, nE, nA, nM, nD, nL, iL, iT, iE, iN, iC]
  refine IndexFuncI _ _ hl q _ _ _ hq _ ?_
  try simp only [pm, pmW, pmB, ft, ↓reduceIte, reduceCtorEq, nE, nA, nM, nD, nL, iL, iT, iE, iN, iC]
  have := findI_nonneg q l 0 (by omega)
  rw [this]
  exact finK_le (Heap.le_refl _) k
theorem lintRow (fr : Bool) (X : List Int) (hl : X.length ≤ 1000000) (i : Nat) (hi : i < X.length) (h : Heap) {K : PV → Heap → Prop} (k : K (.bool (rowT X i)) h) :
    CanP Tryz.prog 34 [.list fr 1 X.length (X.map (.int .i64)), .int .i64 i] h K := by
  refine e34 rfl ?_
  rw [rowT] at k
  by_cases h0 : 2 ≤ i
  · have h0' : ¬ (i : Int) < 2 := by omega
    have hw : IntKind.i64.wrap ((i : Int) - 2) = ((i - 2 : Nat) : Int) := by rw [wrap_in (by omega) (by omega)]; omega
    have hw2 : IntKind.i64.wrap ((i : Int) + 1) = ((i + 1 : Nat) : Int) := by rw [wrap_in (by omega) (by omega)]; omega
    rw [decide_eq_true h0, Bool.true_and] at k
    try simp only [c34, r34_0, r34_1, r34_2, r34_3, r34_4, h0', hw, hw2, pm, pmW, pmB, ft, ↓reduceIte, reduceCtorEq, nE, nA, nM, nD, nL, iL, iT, iE, iN, iC]
    rw [slcN (by omega) (by omega), cut_three X h0 hi]
    try simp only [pm, pmW, pmB, ft, ↓reduceIte, reduceCtorEq, nE, nA, nM, nD, nL, iL, iT, iE, iN, iC]
    refine ContainsFuncI _ [at0 X (i - 2), at0 X (i - 1), at0 X i] (by simp) (fun x => !decide (x = 1600)) _ _ _ (fun x _ h K k => lintOther x h k) _ ?_
    have e : (!([at0 X (i - 2), at0 X (i - 1), at0 X i].any fun x => !decide (x = 1600))) = (decide (at0 X i = 1600) && (decide (at0 X (i - 1) = 1600) && decide (at0 X (i - 2) = 1600))) := by
      generalize at0 X i = a
      generalize at0 X (i - 1) = b
      generalize at0 X (i - 2) = c
      simp only [List.any_cons, List.any_nil]
      cases decide (a = 1600) <;> cases decide (b = 1600) <;> cases decide (c = 1600) <;> rfl
    rw [← e] at k
    try simp only [pm, pmW, pmB, ft, ↓reduceIte, reduceCtorEq, nE, nA, nM, nD, nL, iL, iT, iE, iN, iC]
    exact finK_rf k
  · have h0' : (i : Int) < 2 := by omega
    rw [decide_eq_false h0, Bool.false_and] at k
    try simp only [c34, r34_0, r34_1, r34_2, r34_3, r34_4, h0', pm, pmW, pmB, ft, ↓reduceIte, reduceCtorEq, nE, nA, nM, nD, nL, iL, iT, iE, iN, iC]
    exact finK_rf k
end Go.Proofs.YtcgaphmndnmfdaaGreat
