/-
  What codes are: the package props.
  Conditions: none but those that each sentence tells.
-/
import Derived.Test.YtcgaphmndnmfdaaGreatTrieA
import Derived.Test.YtcgaphmndnmfdaaGreatRngB
import Derived.Test.YtcgaphmndnmfdaaGreatRngJ
namespace Go.Proofs.YtcgaphmndnmfdaaGreat
open Go.Pm
open Nat renaming reduceEqDiff → nE, reduceAdd → nA, reduceMul → nM, reduceLeDiff → nD, reduceLT → nL
open Int renaming reduceLE → iL, reduceLT → iT, reduceEq → iE, reduceToNat → iN, cast_ofNat_Int → iC
set_option maxRecDepth 100000
set_option linter.unusedSimpArgs false
set_option linter.unusedVariables false

/-- What a call made. -/
def prp (fr f1 f2 : Bool) (FB : List Int) (BB : List (Nat → Int)) (FJ : List Int) (BJ : List (Nat → Int)) : PV := .fptr fr [tab f1 FB BB 0, tab f2 FJ BJ 0] 0
def PR (v : PV) : Prop := ∃ fr f1 f2 FB BB FJ BJ, v = prp fr f1 f2 FB BB FJ BJ ∧ Tab brs 0 FB BB ∧ Tab jrs 0 FJ BJ
theorem old_prp (fr f1 f2 : Bool) (FB : List Int) (BB : List (Nat → Int)) (FJ : List Int) (BJ : List (Nat → Int)) : PV.old (prp fr f1 f2 FB BB FJ BJ) = prp false false false FB BB FJ BJ := by simp [prp, PV.old, olds, old_tab]
theorem PR.old {v : PV} (h : PR v) : PR v.old := by
  obtain ⟨fr, f1, f2, FB, BB, FJ, BJ, rfl, a, b⟩ := h
  exact ⟨false, false, false, FB, BB, FJ, BJ, old_prp .., a, b⟩
theorem PR.old2 {v : PV} (h : PR v) : v.old.old = v.old := by
  obtain ⟨fr, f1, f2, FB, BB, FJ, BJ, rfl, a, b⟩ := h
  rw [old_prp, old_prp]
theorem New (h : Heap) {K : PV → Heap → Prop} (k : ∀ v, PR v → K v h) : CanP Tryz.prog 8 [] h K := by
  refine e8 rfl ?_
  try simp only [c8, r8_0, r8_1, r8_2, r8_3, r8_4, r8_5, pm, pmW, pmB, ft, ↓reduceIte, reduceCtorEq, nE, nA, nM, nD, nL, iL, iT, iE, iN, iC]
  refine BidiRanges _ ?_
  try simp only [pm, pmW, pmB, ft, ↓reduceIte, reduceCtorEq, nE, nA, nM, nD, nL, iL, iT, iE, iN, iC]
  refine Build _ _ brs_ok (by decide) _ _ fun FB BB TB => ?_
  try simp only [pm, pmW, pmB, ft, ↓reduceIte, reduceCtorEq, nE, nA, nM, nD, nL, iL, iT, iE, iN, iC]
  refine JoinRanges _ ?_
  try simp only [pm, pmW, pmB, ft, ↓reduceIte, reduceCtorEq, nE, nA, nM, nD, nL, iL, iT, iE, iN, iC]
  refine Build _ _ jrs_ok (by decide) _ _ fun FJ BJ TJ => ?_
  try simp only [tab, pm, pmW, pmB, ft, ↓reduceIte, reduceCtorEq, nE, nA, nM, nD, nL, iL, iT, iE, iN, iC]
  exact finK_le (Heap.le_refl _) (k _ ⟨true, true, true, FB, BB, FJ, BJ, rfl, TB, TJ⟩)
theorem made (p : PV) (hp : PR p) (h : Heap) {K : PV → Heap → Prop} (k : K (.bool true) h) : CanP Tryz.prog 85 [p] h K := by
  refine e85 rfl ?_
  obtain ⟨fr, f1, f2, FB, BB, FJ, BJ, rfl, a, b⟩ := hp
  try simp only [c85, r85_0, r85_1, old_prp, pm, pmW, pmB, ft, ↓reduceIte, reduceCtorEq, nE, nA, nM, nD, nL, iL, iT, iE, iN, iC]
  try simp only [prp, tab, pm, pmW, pmB, ft, ↓reduceIte, reduceCtorEq, nE, nA, nM, nD, nL, iL, iT, iE, iN, iC]
  exact finK_le (Heap.le_refl _) k
theorem code_ (c : Int) (h : Heap) {K : PV → Heap → Prop} (k : K (.bool (decide (0 ≤ c ∧ c ≤ 1114111))) h) : CanP Tryz.prog 86 [.int .i64 c] h K := by
  refine e86 rfl ?_
  try simp only [c86, r86_0, r86_1, pm, pmW, pmB, ft, ↓reduceIte, reduceCtorEq, nE, nA, nM, nD, nL, iL, iT, iE, iN, iC]
  by_cases h1 : 0 ≤ c
  · try simp only [h1, pm, pmW, pmB, ft, ↓reduceIte, reduceCtorEq, nE, nA, nM, nD, nL, iL, iT, iE, iN, iC]
    exact finK_le (Heap.le_refl _) (by simpa [h1] using k)
  · try simp only [h1, pm, pmW, pmB, ft, ↓reduceIte, reduceCtorEq, nE, nA, nM, nD, nL, iL, iT, iE, iN, iC]
    exact finK_le (Heap.le_refl _) (by simpa [h1] using k)
/-- A code's class. -/
def classT (c : Int) : Int := if 0 ≤ c ∧ c ≤ 1114111 then getR brs 0 c else 13
theorem Class (p : PV) (hp : PR p) (c : Int) (h : Heap) {K : PV → Heap → Prop} (k : K (.int .i64 (classT c)) h) : CanP Tryz.prog 45 [p, .int .i64 c] h K := by
  refine e45 rfl ?_
  have hp' := hp.old
  try simp only [c45, r45_0, r45_1, r45_2, r45_3, pm, pmW, pmB, ft, ↓reduceIte, reduceCtorEq, nE, nA, nM, nD, nL, iL, iT, iE, iN, iC]
  refine made _ hp' _ ?_
  try simp only [pm, pmW, pmB, ft, ↓reduceIte, reduceCtorEq, nE, nA, nM, nD, nL, iL, iT, iE, iN, iC]
  refine code_ _ _ ?_
  by_cases h1 : 0 ≤ c ∧ c ≤ 1114111
  · rw [classT, if_pos h1] at k
    have hd := decide_eq_true h1
    obtain ⟨fr, f1, f2, FB, BB, FJ, BJ, rfl, a, b⟩ := hp
    try simp only [hd, old_prp, pm, pmW, pmB, ft, ↓reduceIte, reduceCtorEq, nE, nA, nM, nD, nL, iL, iT, iE, iN, iC]
    try simp only [prp, pm, pmW, pmB, ft, ↓reduceIte, reduceCtorEq, nE, nA, nM, nD, nL, iL, iT, iE, iN, iC]
    refine Get _ _ _ _ _ a _ _ ?_
    rw [getT, if_pos h1]
    try simp only [pm, pmW, pmB, ft, ↓reduceIte, reduceCtorEq, nE, nA, nM, nD, nL, iL, iT, iE, iN, iC]
    exact finK_le (Heap.le_refl _) k
  · rw [classT, if_neg h1] at k
    have hd := decide_eq_false h1
    try simp only [hd, pm, pmW, pmB, ft, ↓reduceIte, reduceCtorEq, nE, nA, nM, nD, nL, iL, iT, iE, iN, iC]
    exact finK_le (Heap.le_refl _) k
/-- How a code joins. -/
def joinT (c : Int) : Int := getT jrs 0 c
theorem joinT_eq (c : Int) : getR jrs 0 c = joinT c := by
  unfold joinT getT
  split
  · rfl
  · rename_i h
    obtain ⟨m1, _⟩ := may_spec jrs (-1) jrs_ok
    refine getR_skip fun r hr => ?_
    obtain ⟨i, h1, h2⟩ := List.mem_iff_getElem.1 hr
    have := m1 i h1
    rw [List.getD, List.getElem?_eq_getElem h1, Option.getD_some, h2] at this
    omega
theorem is_ (p : PV) (hp : PR p) (c : Int) (fr : Bool) (l : List Int) (hl : l.length ≤ 100) (h : Heap) {K : PV → Heap → Prop} (k : K (.bool (l.contains (classT c))) h) : CanP Tryz.prog 128 [p, .int .i64 c, .list fr 1 l.length (l.map (.int .i64))] h K := by
  refine e128 rfl ?_
  have hp' := hp.old
  try simp only [c128, r128_0, r128_1, r128_2, r128_3, r128_4, r128_5, r128_6, r128_7, r128_8, r128_9, r128_10, pm, pmW, pmB, ft, ↓reduceIte, reduceCtorEq, nE, nA, nM, nD, nL, iL, iT, iE, iN, iC]
  refine made _ hp' _ ?_
  try simp only [pm, pmW, pmB, ft, ↓reduceIte, reduceCtorEq, nE, nA, nM, nD, nL, iL, iT, iE, iN, iC]
  refine Class _ hp' _ _ ?_
  try simp only [pm, pmW, pmB, ft, ↓reduceIte, reduceCtorEq, nE, nA, nM, nD, nL, iL, iT, iE, iN, iC]
  generalize classT c = x at *
  refine pwp_up l.length (fun i σ h' => h' = h ∧ σ 7 = .int .i64 x ∧ σ 16 = .list false 1 l.length (l.map (.int .i64)) ∧ σ 17 = .int .i64 l.length ∧ σ 18 = .int .i64 i ∧ l.contains x = (l.drop i).contains x) ?_ ?_
  · exact ⟨rfl, rfl, rfl, rfl, rfl, rfl⟩
  · rintro i σ h' K' hi ⟨rfl, s7, s16, s17, s18, hq⟩ next
    try simp only [s16, s17, s18, cdK_dec, pm, pmW, pmB, ft, ↓reduceIte, reduceCtorEq, nE, nA, nM, nD, nL, iL, iT, iE, iN, iC]
    refine ⟨fun hlt => ?_, fun hge => ?_⟩
    · have hx := getm (.int .i64) l hlt
      rw [drop_getD l hlt, List.contains_cons] at hq
      generalize l.getD i default = y at *
      try simp only [s7, s16, s18, hx, hlt, pm, pmW, pmB, ft, ↓reduceIte, reduceCtorEq, nE, nA, nM, nD, nL, iL, iT, iE, iN, iC]
      by_cases h1 : x = y
      · have hd := decide_eq_true h1
        have hc : l.contains x = true := by rw [hq, h1]; simp
        rw [hc] at k
        try simp only [hd, pm, pmW, pmB, ft, ↓reduceIte, reduceCtorEq, nE, nA, nM, nD, nL, iL, iT, iE, iN, iC]
        exact finK_le (Heap.le_refl _) k
      · try simp only [h1, s18, pm, pmW, pmB, ft, ↓reduceIte, reduceCtorEq, nE, nA, nM, nD, nL, iL, iT, iE, iN, iC]
        rw [wrap_in (by omega) (by omega)]
        exact next hlt _ _ ⟨rfl, by simp [put, s7], by simp [put, s16], by simp [put, s17], by simp [put], by rw [hq, beq_eq_false_iff_ne.2 h1, Bool.false_or]⟩
    · rw [List.drop_eq_nil_of_le (by omega)] at hq
      rw [hq] at k
      try simp only [s7, pm, pmW, pmB, ft, ↓reduceIte, reduceCtorEq, nE, nA, nM, nD, nL, iL, iT, iE, iN, iC]
      exact finK_le (Heap.le_refl _) k
def markC : List Int := [8]
def strongC : List Int := [0, 1, 2]
def controlC : List Int := [9, 14, 15, 16, 17, 18, 19, 20, 21, 22]
def markT (c : Int) : Bool := markC.contains (classT c)
def strongT (c : Int) : Bool := strongC.contains (classT c)
def controlT (c : Int) : Bool := decide (c = 8206 ∨ c = 8207 ∨ c = 1564) || controlC.contains (classT c)
theorem Mark (p : PV) (hp : PR p) (c : Int) (h : Heap) {K : PV → Heap → Prop} (k : K (.bool (markT c)) h) : CanP Tryz.prog 93 [p, .int .i64 c] h K := by
  refine e93 rfl ?_
  have hp' := hp.old
  try simp only [c93, r93_0, r93_1, pm, pmW, pmB, ft, ↓reduceIte, reduceCtorEq, nE, nA, nM, nD, nL, iL, iT, iE, iN, iC]
  refine is_ _ hp' c _ markC (by decide) _ ?_
  try simp only [pm, pmW, pmB, ft, ↓reduceIte, reduceCtorEq, nE, nA, nM, nD, nL, iL, iT, iE, iN, iC]
  exact finK_le (Heap.le_refl _) k
/-- Which digit a code is, and of which kind. -/
def digT (c : Int) : Int × Int := if 48 ≤ c ∧ c < 58 then (c - 48, 1) else if 1632 ≤ c ∧ c < 1642 then (c - 1632, 2) else if 1776 ≤ c ∧ c < 1786 then (c - 1776, 3) else (0, 0)
theorem rows (h : Heap) {K : PV → Heap → Prop} (k : K (.agg [.int .i64 48, .int .i64 1, .int .i64 1632, .int .i64 2, .int .i64 1776, .int .i64 3]) h) : CanP Tryz.prog 130 [] h K := by
  refine e130 rfl ?_
  try simp only [c130, r130_0, r130_1, pm, pmW, pmB, ft, ↓reduceIte, reduceCtorEq, nE, nA, nM, nD, nL, iL, iT, iE, iN, iC]
  intro b hb
  try simp only [pm, pmW, pmB, ft, ↓reduceIte, reduceCtorEq, nE, nA, nM, nD, nL, iL, iT, iE, iN, iC]
  exact finK_le (Heap.le_set (Heap.le_refl _) hb) k
theorem Digit (p : PV) (hp : PR p) (c : Int) (h : Heap) {K : PV → Heap → Prop} (k : K (.tup [.int .i64 (digT c).1, .int .i64 (digT c).2]) h) : CanP Tryz.prog 95 [p, .int .i64 c] h K := by
  refine e95 rfl ?_
  have hp' := hp.old
  try simp only [c95, r95_0, r95_1, r95_2, r95_3, r95_4, r95_5, r95_6, r95_7, r95_8, r95_9, pm, pmW, pmB, ft, ↓reduceIte, reduceCtorEq, nE, nA, nM, nD, nL, iL, iT, iE, iN, iC]
  refine made _ hp' _ ?_
  try simp only [pm, pmW, pmB, ft, ↓reduceIte, reduceCtorEq, nE, nA, nM, nD, nL, iL, iT, iE, iN, iC]
  refine rows _ ?_
  try simp only [pm, pmW, pmB, ft, ↓reduceIte, reduceCtorEq, nE, nA, nM, nD, nL, iL, iT, iE, iN, iC]
  refine pwp_up 3 (fun i σ h' => h' = h ∧ σ 1 = .int .i64 c ∧ σ 11 = .agg [.int .i64 48, .int .i64 1, .int .i64 1632, .int .i64 2, .int .i64 1776, .int .i64 3] ∧ σ 12 = .int .i64 i ∧
    (1 ≤ i → ¬ (48 ≤ c ∧ c < 58)) ∧ (2 ≤ i → ¬ (1632 ≤ c ∧ c < 1642)) ∧ (3 ≤ i → ¬ (1776 ≤ c ∧ c < 1786))) ?_ ?_
  · exact ⟨rfl, rfl, rfl, rfl, fun h => by omega, fun h => by omega, fun h => by omega⟩
  · rintro i σ h' K' hi ⟨rfl, s1, s11, s12, n1, n2, n3⟩ next
    have hw : IntKind.i64.wrap ((i : Int) + 1) = (i : Int) + 1 := wrap_in (by omega) (by omega)
    have w1 : IntKind.i64.wrap (48 + 10) = 58 := by rfl
    have w2 : IntKind.i64.wrap (1632 + 10) = 1642 := by rfl
    have w3 : IntKind.i64.wrap (1776 + 10) = 1786 := by rfl
    have go : ∀ (z kd : Int), (i = 0 → z = 48 ∧ kd = 1) → (i = 1 → z = 1632 ∧ kd = 2) → (i = 2 → z = 1776 ∧ kd = 3) → i < 3 → z ≤ c → c < z + 10 → digT c = (c - z, kd) := fun z kd a1 a2 a3 hi q1 q2 => by
      unfold digT
      have : i = 0 ∨ i = 1 ∨ i = 2 := by omega
      rcases this with rfl | rfl | rfl
      · obtain ⟨rfl, rfl⟩ := a1 rfl; rw [if_pos (by omega)]
      · obtain ⟨rfl, rfl⟩ := a2 rfl; rw [if_neg (n1 (by omega)), if_pos (by omega)]
      · obtain ⟨rfl, rfl⟩ := a3 rfl; rw [if_neg (n1 (by omega)), if_neg (n2 (by omega)), if_pos (by omega)]
    by_cases e3 : i = 3
    · subst e3
      have : digT c = (0, 0) := by unfold digT; rw [if_neg (n1 (by omega)), if_neg (n2 (by omega)), if_neg (n3 (by omega))]
      rw [this] at k
      try simp only [s12, pm, pmW, pmB, ft, ↓reduceIte, reduceCtorEq, nE, nA, nM, nD, nL, iL, iT, iE, iN, iC]
      exact finK_le (Heap.le_refl _) k
    · have : i = 0 ∨ i = 1 ∨ i = 2 := by omega
      rcases this with rfl | rfl | rfl
      · try simp only [s11, s12, pm, pmW, pmB, ft, ↓reduceIte, reduceCtorEq, nE, nA, nM, nD, nL, iL, iT, iE, iN, iC]
        intro b hb
        try simp only [Heap.kill_none hb, s1, w1, pm, pmW, pmB, ft, ↓reduceIte, reduceCtorEq, nE, nA, nM, nD, nL, iL, iT, iE, iN, iC]
        by_cases h1 : 48 ≤ c
        · by_cases h2 : c < 58
          · rw [go 48 1 (fun _ => ⟨rfl, rfl⟩) (fun e => by omega) (fun e => by omega) (by omega) h1 h2] at k
            try simp only [h1, h2, s1, w1, pm, pmW, pmB, ft, ↓reduceIte, reduceCtorEq, nE, nA, nM, nD, nL, iL, iT, iE, iN, iC]
            rw [wrap_in (by omega) (by omega)]
            exact finK_le (Heap.le_refl _) k
          · try simp only [h1, h2, s1, s12, w1, hw, pm, pmW, pmB, ft, ↓reduceIte, reduceCtorEq, nE, nA, nM, nD, nL, iL, iT, iE, iN, iC]
            exact next (by omega) _ _ ⟨rfl, by simp [put, s1], by simp [put, s11], by simp [put]; rfl, fun _ => by omega, fun h => by omega, fun h => by omega⟩
        · try simp only [h1, s1, s12, hw, pm, pmW, pmB, ft, ↓reduceIte, reduceCtorEq, nE, nA, nM, nD, nL, iL, iT, iE, iN, iC]
          exact next (by omega) _ _ ⟨rfl, by simp [put, s1], by simp [put, s11], by simp [put]; rfl, fun _ => by omega, fun h => by omega, fun h => by omega⟩
      · try simp only [s11, s12, pm, pmW, pmB, ft, ↓reduceIte, reduceCtorEq, nE, nA, nM, nD, nL, iL, iT, iE, iN, iC]
        intro b hb
        try simp only [Heap.kill_none hb, s1, w2, pm, pmW, pmB, ft, ↓reduceIte, reduceCtorEq, nE, nA, nM, nD, nL, iL, iT, iE, iN, iC]
        by_cases h1 : 1632 ≤ c
        · by_cases h2 : c < 1642
          · rw [go 1632 2 (fun e => by omega) (fun _ => ⟨rfl, rfl⟩) (fun e => by omega) (by omega) h1 h2] at k
            try simp only [h1, h2, s1, w2, pm, pmW, pmB, ft, ↓reduceIte, reduceCtorEq, nE, nA, nM, nD, nL, iL, iT, iE, iN, iC]
            rw [wrap_in (by omega) (by omega)]
            exact finK_le (Heap.le_refl _) k
          · try simp only [h1, h2, s1, s12, w2, hw, pm, pmW, pmB, ft, ↓reduceIte, reduceCtorEq, nE, nA, nM, nD, nL, iL, iT, iE, iN, iC]
            exact next (by omega) _ _ ⟨rfl, by simp [put, s1], by simp [put, s11], by simp [put]; rfl, fun _ => n1 (by omega), fun h => by omega, fun h => by omega⟩
        · try simp only [h1, s1, s12, hw, pm, pmW, pmB, ft, ↓reduceIte, reduceCtorEq, nE, nA, nM, nD, nL, iL, iT, iE, iN, iC]
          exact next (by omega) _ _ ⟨rfl, by simp [put, s1], by simp [put, s11], by simp [put]; rfl, fun _ => n1 (by omega), fun h => by omega, fun h => by omega⟩
      · try simp only [s11, s12, pm, pmW, pmB, ft, ↓reduceIte, reduceCtorEq, nE, nA, nM, nD, nL, iL, iT, iE, iN, iC]
        intro b hb
        try simp only [Heap.kill_none hb, s1, w3, pm, pmW, pmB, ft, ↓reduceIte, reduceCtorEq, nE, nA, nM, nD, nL, iL, iT, iE, iN, iC]
        by_cases h1 : 1776 ≤ c
        · by_cases h2 : c < 1786
          · rw [go 1776 3 (fun e => by omega) (fun e => by omega) (fun _ => ⟨rfl, rfl⟩) (by omega) h1 h2] at k
            try simp only [h1, h2, s1, w3, pm, pmW, pmB, ft, ↓reduceIte, reduceCtorEq, nE, nA, nM, nD, nL, iL, iT, iE, iN, iC]
            rw [wrap_in (by omega) (by omega)]
            exact finK_le (Heap.le_refl _) k
          · try simp only [h1, h2, s1, s12, w3, hw, pm, pmW, pmB, ft, ↓reduceIte, reduceCtorEq, nE, nA, nM, nD, nL, iL, iT, iE, iN, iC]
            exact next (by omega) _ _ ⟨rfl, by simp [put, s1], by simp [put, s11], by simp [put]; rfl, fun _ => n1 (by omega), fun _ => n2 (by omega), fun h => by omega⟩
        · try simp only [h1, s1, s12, hw, pm, pmW, pmB, ft, ↓reduceIte, reduceCtorEq, nE, nA, nM, nD, nL, iL, iT, iE, iN, iC]
          exact next (by omega) _ _ ⟨rfl, by simp [put, s1], by simp [put, s11], by simp [put]; rfl, fun _ => n1 (by omega), fun _ => n2 (by omega), fun h => by omega⟩
end Go.Proofs.YtcgaphmndnmfdaaGreat
