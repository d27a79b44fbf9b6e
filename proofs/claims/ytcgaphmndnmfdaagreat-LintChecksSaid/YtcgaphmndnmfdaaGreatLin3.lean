/-
  How many are of some kinds, and a kind's name (lint.Count, lint.Name), the document's answer; the law LintCounts (P49.2).
-/
import Derived.Test.YtcgaphmndnmfdaaGreatLin2
namespace Go.Proofs.YtcgaphmndnmfdaaGreat
open Go.Pm
open Nat renaming reduceEqDiff → nE, reduceAdd → nA, reduceMul → nM, reduceLeDiff → nD, reduceLT → nL
open Int renaming reduceLE → iL, reduceLT → iT, reduceEq → iE, reduceToNat → iN, cast_ofNat_Int → iC
set_option maxRecDepth 100000
set_option linter.unusedSimpArgs false
set_option linter.unusedVariables false
set_option maxHeartbeats 4000000

theorem sp_inj2 (p q : Int × Int) : (sp p = sp q) = (p = q) := by
  obtain ⟨a, b⟩ := p
  obtain ⟨c, d⟩ := q
  simp [sp]
def inK (ks : List Int) (x : Int × Int) : Bool := decide (ks.length = 0) || ks.contains x.2
def cntT (ks : List Int) (l : List (Int × Int)) : Nat := (l.filter (inK ks)).length
theorem cnt_le (ks : List Int) (l : List (Int × Int)) : cntT ks l ≤ l.length := List.length_filter_le _ _
theorem cnt_step (ks : List Int) (l : List (Int × Int)) {i : Nat} (h : i < l.length) : cntT ks (l.take (i + 1)) = cntT ks (l.take i) + (if inK ks (l.getD i default) then 1 else 0) := by
  have e : l.take (i + 1) = l.take i ++ [l.getD i default] := by
    rw [List.take_add_one, List.getD, List.getElem?_eq_getElem h]; rfl
  rw [cntT, cntT, e, List.filter_append, List.length_append]
  cases q : inK ks (l.getD i default)
  · rw [List.filter_cons_of_neg (by rw [q]; decide)]; simp
  · rw [List.filter_cons_of_pos q]; simp
theorem has49 (fr : Bool) (L : List Int) (hl : L.length ≤ 1000000) (x : Int) (h : Heap) {K : PV → Heap → Prop} (k : K (.bool (decide (x ∈ L))) h) :
    CanP Tryz.prog 61 [.list fr 1 L.length (L.map (.int .i64)), .int .i64 x] h K := by
  refine e61 rfl ?_
  try simp only [c61, r61_0, r61_1, r61_2, r61_3, r61_4, r61_5, r61_6, pm, pmW, pmB, ft, ↓reduceIte, reduceCtorEq, nE, nA, nM, nD, nL, iL, iT, iE, iN, iC]
  refine pwp_up L.length (fun i σ h' => h' = h ∧ σ 0 = .list false 1 L.length (L.map (.int .i64)) ∧ σ 1 = .int .i64 x ∧ σ 5 = .int .i64 i ∧ decide (x ∈ L) = decide (x ∈ L.drop i)) ?_ ?_
  · exact ⟨rfl, rfl, rfl, rfl, rfl⟩
  rintro i σ h' K' hi ⟨rfl, s0, s1, s5, hp⟩ next
  rcases Nat.lt_or_ge i L.length with hlt | hge
  · have hw : IntKind.i64.wrap ((i : Int) + 1) = (i : Int) + 1 := wrap_in (by omega) (by omega)
    have hx := getm (PV.int .i64) L hlt
    rw [drop_getD L hlt] at hp
    generalize L.getD i default = c at *
    by_cases h1 : c = x
    · have hd : decide (c = x) = true := decide_eq_true h1
      try simp only [s0, s1, s5, hlt, hx, hd, h1, pm, pmW, pmB, ft, ↓reduceIte, reduceCtorEq, nE, nA, nM, nD, nL, iL, iT, iE, iN, iC]
      exact finK_rf (by rw [hp] at k; simpa [h1] using k)
    · have hd : decide (c = x) = false := decide_eq_false h1
      try simp only [s0, s1, s5, hlt, hx, hd, h1, hw, pm, pmW, pmB, ft, ↓reduceIte, reduceCtorEq, nE, nA, nM, nD, nL, iL, iT, iE, iN, iC]
      refine next hlt _ _ ?_
      exact ⟨rfl, by simp [put, s0], by simp [put, s1], by simp [put], by rw [hp, decide_eq_decide]; simp [Ne.symm h1]⟩
  · have e : i = L.length := by omega
    subst e
    have hnl := Nat.lt_irrefl L.length
    try simp only [s0, s5, hnl, pm, pmW, pmB, ft, ↓reduceIte, reduceCtorEq, nE, nA, nM, nD, nL, iL, iT, iE, iN, iC]
    rw [hp, List.drop_length] at k
    exact finK_rf (by simpa using k)
theorem rowR49 (fr : Bool) (X : List Int) (hl : X.length ≤ 1000000) (i : Nat) (hi : i < X.length) (h : Heap) {K : PV → Heap → Prop} (k : K (.bool (rowT X i)) h) :
    CanP Tryz.prog 39 [.list fr 1 X.length (X.map (.int .i64)), .int .i64 i] h K := by
  refine e39 rfl ?_
  rw [rowT] at k
  by_cases h0 : 2 ≤ i
  · have h0' : (2 : Int) ≤ (i : Int) := by omega
    have hw1 : IntKind.i64.wrap ((i : Int) - 1) = ((i - 1 : Nat) : Int) := by rw [wrap_in (by omega) (by omega)]; omega
    have hw2 : IntKind.i64.wrap ((i : Int) - 2) = ((i - 2 : Nat) : Int) := by rw [wrap_in (by omega) (by omega)]; omega
    have hi1 : i - 1 < X.length := by omega
    have hi2 : i - 2 < X.length := by omega
    have hx := getm (PV.int .i64) X hi
    have hx1 := getm (PV.int .i64) X hi1
    have hx2 := getm (PV.int .i64) X hi2
    rw [show X.getD i default = at0 X i from rfl] at hx
    rw [show X.getD (i - 1) default = at0 X (i - 1) from rfl] at hx1
    rw [show X.getD (i - 2) default = at0 X (i - 2) from rfl] at hx2
    rw [decide_eq_true h0, Bool.true_and] at k
    generalize at0 X i = a at *
    generalize at0 X (i - 1) = b at *
    generalize at0 X (i - 2) = c at *
    cases e1 : decide (a = 1600)
    · rw [e1, Bool.false_and] at k
      try simp only [c39, r39_0, r39_1, h0', hi, hx, e1, pm, pmW, pmB, ft, ↓reduceIte, reduceCtorEq, nE, nA, nM, nD, nL, iL, iT, iE, iN, iC]
      exact finK_rf k
    · rw [e1, Bool.true_and] at k
      cases e2 : decide (b = 1600)
      · rw [e2, Bool.false_and] at k
        try simp only [c39, r39_0, r39_1, h0', hi, hx, e1, hw1, hi1, hx1, e2, pm, pmW, pmB, ft, ↓reduceIte, reduceCtorEq, nE, nA, nM, nD, nL, iL, iT, iE, iN, iC]
        exact finK_rf k
      · rw [e2, Bool.true_and] at k
        cases e3 : decide (c = 1600)
        · rw [e3] at k
          try simp only [c39, r39_0, r39_1, h0', hi, hx, e1, hw1, hi1, hx1, e2, hw2, hi2, hx2, e3, pm, pmW, pmB, ft, ↓reduceIte, reduceCtorEq, nE, nA, nM, nD, nL, iL, iT, iE, iN, iC]
          exact finK_rf k
        · rw [e3] at k
          try simp only [c39, r39_0, r39_1, h0', hi, hx, e1, hw1, hi1, hx1, e2, hw2, hi2, hx2, e3, pm, pmW, pmB, ft, ↓reduceIte, reduceCtorEq, nE, nA, nM, nD, nL, iL, iT, iE, iN, iC]
          exact finK_rf k
  · have h0' : ¬ (2 : Int) ≤ (i : Int) := by omega
    rw [decide_eq_false h0, Bool.false_and] at k
    try simp only [c39, r39_0, r39_1, h0', pm, pmW, pmB, ft, ↓reduceIte, reduceCtorEq, nE, nA, nM, nD, nL, iL, iT, iE, iN, iC]
    exact finK_rf k
/-! ### Names -/
def nmT (n : Int) : ByteArray :=
  if n = 1 then ⟨#[105, 108, 108]⟩ else if n = 2 then ⟨#[111, 112, 101, 110]⟩ else if n = 3 then ⟨#[108, 111, 111, 115, 101]⟩ else if n = 4 then ⟨#[102, 111, 114, 109, 101, 100]⟩
  else if n = 5 then ⟨#[98, 97, 114, 101]⟩ else if n = 6 then ⟨#[111, 114, 100, 101, 114]⟩ else if n = 7 then ⟨#[100, 105, 103, 105, 116, 115]⟩ else if n = 8 then ⟨#[114, 111, 119]⟩ else ⟨#[]⟩
theorem nm_no {n : Int} (h : ¬ (1 ≤ n ∧ n ≤ 8)) : nmT n = ⟨#[]⟩ := by
  rw [nmT, if_neg (by omega), if_neg (by omega), if_neg (by omega), if_neg (by omega), if_neg (by omega), if_neg (by omega), if_neg (by omega), if_neg (by omega)]
theorem nm_8 : nmT 8 = ⟨#[114, 111, 119]⟩ := by
  rw [nmT, if_neg (by decide), if_neg (by decide), if_neg (by decide), if_neg (by decide), if_neg (by decide), if_neg (by decide), if_neg (by decide), if_pos rfl]
theorem lintName (n : Int) (h : Heap) {K : PV → Heap → Prop} (k : K (.str (nmT n)) h) : CanP Tryz.prog 17 [.int .i64 n] h K := by
  refine e17 rfl ?_
  by_cases hn : 1 ≤ n ∧ n ≤ 8
  · rcases (show n = 1 ∨ n = 2 ∨ n = 3 ∨ n = 4 ∨ n = 5 ∨ n = 6 ∨ n = 7 ∨ n = 8 by omega) with rfl | rfl | rfl | rfl | rfl | rfl | rfl | rfl
    · rw [nmT, if_pos rfl] at k
      try simp only [c17, r17_0, r17_1, r17_2, r17_3, r17_4, r17_5, r17_6, r17_7, r17_8, r17_9, r17_10, r17_11, r17_12, r17_13, r17_14, r17_15, r17_16, r17_17, r17_18, pm, pmW, pmB, ft, ↓reduceIte, reduceCtorEq, nE, nA, nM, nD, nL, iL, iT, iE, iN, iC]
      exact finK_rf k
    · rw [nmT, if_neg (by decide), if_pos rfl] at k
      try simp only [c17, r17_0, r17_1, r17_2, r17_3, r17_4, r17_5, r17_6, r17_7, r17_8, r17_9, r17_10, r17_11, r17_12, r17_13, r17_14, r17_15, r17_16, r17_17, r17_18, pm, pmW, pmB, ft, ↓reduceIte, reduceCtorEq, nE, nA, nM, nD, nL, iL, iT, iE, iN, iC]
      exact finK_rf k
    · rw [nmT, if_neg (by decide), if_neg (by decide), if_pos rfl] at k
      try simp only [c17, r17_0, r17_1, r17_2, r17_3, r17_4, r17_5, r17_6, r17_7, r17_8, r17_9, r17_10, r17_11, r17_12, r17_13, r17_14, r17_15, r17_16, r17_17, r17_18, pm, pmW, pmB, ft, ↓reduceIte, reduceCtorEq, nE, nA, nM, nD, nL, iL, iT, iE, iN, iC]
      exact finK_rf k
    · rw [nmT, if_neg (by decide), if_neg (by decide), if_neg (by decide), if_pos rfl] at k
      try simp only [c17, r17_0, r17_1, r17_2, r17_3, r17_4, r17_5, r17_6, r17_7, r17_8, r17_9, r17_10, r17_11, r17_12, r17_13, r17_14, r17_15, r17_16, r17_17, r17_18, pm, pmW, pmB, ft, ↓reduceIte, reduceCtorEq, nE, nA, nM, nD, nL, iL, iT, iE, iN, iC]
      exact finK_rf k
    · rw [nmT, if_neg (by decide), if_neg (by decide), if_neg (by decide), if_neg (by decide), if_pos rfl] at k
      try simp only [c17, r17_0, r17_1, r17_2, r17_3, r17_4, r17_5, r17_6, r17_7, r17_8, r17_9, r17_10, r17_11, r17_12, r17_13, r17_14, r17_15, r17_16, r17_17, r17_18, pm, pmW, pmB, ft, ↓reduceIte, reduceCtorEq, nE, nA, nM, nD, nL, iL, iT, iE, iN, iC]
      exact finK_rf k
    · rw [nmT, if_neg (by decide), if_neg (by decide), if_neg (by decide), if_neg (by decide), if_neg (by decide), if_pos rfl] at k
      try simp only [c17, r17_0, r17_1, r17_2, r17_3, r17_4, r17_5, r17_6, r17_7, r17_8, r17_9, r17_10, r17_11, r17_12, r17_13, r17_14, r17_15, r17_16, r17_17, r17_18, pm, pmW, pmB, ft, ↓reduceIte, reduceCtorEq, nE, nA, nM, nD, nL, iL, iT, iE, iN, iC]
      exact finK_rf k
    · rw [nmT, if_neg (by decide), if_neg (by decide), if_neg (by decide), if_neg (by decide), if_neg (by decide), if_neg (by decide), if_pos rfl] at k
      try simp only [c17, r17_0, r17_1, r17_2, r17_3, r17_4, r17_5, r17_6, r17_7, r17_8, r17_9, r17_10, r17_11, r17_12, r17_13, r17_14, r17_15, r17_16, r17_17, r17_18, pm, pmW, pmB, ft, ↓reduceIte, reduceCtorEq, nE, nA, nM, nD, nL, iL, iT, iE, iN, iC]
      exact finK_rf k
    · rw [nmT, if_neg (by decide), if_neg (by decide), if_neg (by decide), if_neg (by decide), if_neg (by decide), if_neg (by decide), if_neg (by decide), if_pos rfl] at k
      try simp only [c17, r17_0, r17_1, r17_2, r17_3, r17_4, r17_5, r17_6, r17_7, r17_8, r17_9, r17_10, r17_11, r17_12, r17_13, r17_14, r17_15, r17_16, r17_17, r17_18, pm, pmW, pmB, ft, ↓reduceIte, reduceCtorEq, nE, nA, nM, nD, nL, iL, iT, iE, iN, iC]
      exact finK_rf k
  · rw [nm_no hn] at k
    have n1 : ¬ n = 1 := by omega
    have n2 : ¬ n = 2 := by omega
    have n3 : ¬ n = 3 := by omega
    have n4 : ¬ n = 4 := by omega
    have n5 : ¬ n = 5 := by omega
    have n6 : ¬ n = 6 := by omega
    have n7 : ¬ n = 7 := by omega
    have n8 : ¬ n = 8 := by omega
    try simp only [c17, r17_0, r17_1, r17_2, r17_3, r17_4, r17_5, r17_6, r17_7, r17_8, r17_9, r17_10, r17_11, r17_12, r17_13, r17_14, r17_15, r17_16, r17_17, r17_18, n1, n2, n3, n4, n5, n6, n7, n8, pm, pmW, pmB, ft, ↓reduceIte, reduceCtorEq, nE, nA, nM, nD, nL, iL, iT, iE, iN, iC]
    exact finK_rf k
theorem EqualFind (fr fr2 : Bool) (a b : List (Int × Int)) (hl : a.length ≤ 1000000000) (h : Heap) {K : PV → Heap → Prop} (k : K (.bool (decide (a = b))) h) :
    CanP Tryz.prog 16 [.list fr 2 a.length (a.flatMap sp), .list fr2 2 b.length (b.flatMap sp)] h K := by
  refine e16 rfl ?_
  try simp only [c16, r16_0, r16_1, r16_2, r16_3, r16_4, r16_5, r16_6, r16_7, r16_8, r16_9, old_sp, pm, pmW, pmB, ft, ↓reduceIte, reduceCtorEq, nE, nA, nM, nD, nL, iL, iT, iE, iN, iC]
  by_cases h1 : a.length = b.length
  · try simp only [h1, pm, pmW, pmB, ft, ↓reduceIte, reduceCtorEq, nE, nA, nM, nD, nL, iL, iT, iE, iN, iC]
    refine pwp_up a.length (fun i σ h' => h' = h ∧ σ 0 = .list false 2 b.length (a.flatMap sp) ∧ σ 1 = .list false 2 b.length (b.flatMap sp) ∧ σ 12 = .int .i64 b.length ∧ σ 13 = .int .i64 i ∧ decide (a = b) = decide (a.drop i = b.drop i)) ?_ ?_
    · exact ⟨rfl, rfl, rfl, rfl, rfl, rfl⟩
    · rintro i σ h' K' hi' ⟨rfl, s0, s1, s12, s13, hp⟩ next
      try simp only [s0, s1, s12, s13, cdK_dec, pm, pmW, pmB, ft, ↓reduceIte, reduceCtorEq, nE, nA, nM, nD, nL, iL, iT, iE, iN, iC]
      refine ⟨fun hlt => ?_, fun hge => ?_⟩
      · have hx := flat_at sp 2 sp_len a (h1 ▸ hlt)
        have hy := flat_at sp 2 sp_len b hlt
        have hx2 : i * 2 + 2 ≤ (a.flatMap sp).length := by rw [flat_length sp 2 sp_len]; omega
        have hy2 : i * 2 + 2 ≤ (b.flatMap sp).length := by rw [flat_length sp 2 sp_len]; omega
        rw [drop_getD a (h1 ▸ hlt), drop_getD b hlt] at hp
        generalize a.getD i default = p at *
        generalize b.getD i default = q at *
        try simp only [hx, hy, hx2, hy2, hlt, sp, s0, s1, s12, s13, sp_inj2, Option.some.injEq, false_and, pm, pmW, pmB, ft, ↓reduceIte, reduceCtorEq, nE, nA, nM, nD, nL, iL, iT, iE, iN, iC]
        by_cases h2 : p = q
        · try simp only [h2, s0, s1, s12, s13, pm, pmW, pmB, ft, ↓reduceIte, reduceCtorEq, nE, nA, nM, nD, nL, iL, iT, iE, iN, iC]
          rw [wrap_in (by omega) (by omega)]
          refine next (h1 ▸ hlt) _ _ ⟨rfl, by simp [put, s0], by simp [put, s1], by simp [put, s12], by simp [put], by simpa [h2] using hp⟩
        · have hd : (decide (p.1 = q.1) && decide (p.2 = q.2)) = false := by
            rw [Bool.and_eq_false_iff, decide_eq_false_iff_not, decide_eq_false_iff_not]
            by_cases a1 : p.1 = q.1
            · exact .inr fun a2 => h2 (Prod.ext a1 a2)
            · exact .inl a1
          try simp only [hd, s0, s1, s12, s13, pm, pmW, pmB, ft, ↓reduceIte, reduceCtorEq, nE, nA, nM, nD, nL, iL, iT, iE, iN, iC]
          exact finK_le (Heap.le_refl _) (by simpa [hp, h2] using k)
      · try simp only [s0, pm, pmW, pmB, ft, ↓reduceIte, reduceCtorEq, nE, nA, nM, nD, nL, iL, iT, iE, iN, iC]
        refine finK_le (Heap.le_refl _) (by simpa [hp, List.drop_eq_nil_of_le (Nat.le_of_not_lt hge), List.drop_eq_nil_of_le (h1 ▸ Nat.le_of_not_lt hge)] using k)
  · try simp only [h1, pm, pmW, pmB, ft, ↓reduceIte, reduceCtorEq, nE, nA, nM, nD, nL, iL, iT, iE, iN, iC]
    exact finK_le (Heap.le_refl _) (by simpa [show a ≠ b from fun e => h1 (by rw [e])] using k)
theorem aw49 : findsT cccT [1616, 1614] = [(0, 5), (1, 6)] := by
  have e0 : splitT [1616, 1614] = [(0, 2)] := by kernel_rfl
  have e1 : (wkT (cls (cutS [1616, 1614] (0, 2)))).st ++ (wkT (cls (cutS [1616, 1614] (0, 2)))).lo = [] := by kernel_rfl
  have ho : openT (cls (cutS [1616, 1614] (0, 2))) = [] := by rw [openT, e1]; simp
  have m0 : (2 : Int).toNat - (0 : Int).toNat = 2 := by kernel_rfl
  rw [findsT, e0]
  simp only [List.flatMap_cons, List.flatMap_nil, m0, fpt, fpl, kls, kindT, ho]
  show _ = _
  kernel_rfl
theorem awake (h : Heap) {K : PV → Heap → Prop} (k : K (.bool true) h) : CanP Tryz.prog 6 [] h K := by
  refine e6 rfl ?_
  try simp only [c6, r6_0, r6_1, r6_2, pm, pmW, pmB, ft, ↓reduceIte, reduceCtorEq, nE, nA, nM, nD, nL, iL, iT, iE, iN, iC]
  refine New _ fun p hp => ?_
  try simp only [pm, pmW, pmB, ft, ↓reduceIte, reduceCtorEq, nE, nA, nM, nD, nL, iL, iT, iE, iN, iC]
  refine cccNew _ fun c hc => ?_
  try simp only [pm, pmW, pmB, ft, ↓reduceIte, reduceCtorEq, nE, nA, nM, nD, nL, iL, iT, iE, iN, iC]
  refine lintCheck p hp c cccT hc _ [1616, 1614] (by decide) _ ?_
  rw [aw49]
  try simp only [pm, pmW, pmB, ft, ↓reduceIte, reduceCtorEq, nE, nA, nM, nD, nL, iL, iT, iE, iN, iC]
  refine EqualFind _ _ [(0, 5), (1, 6)] [(0, 5), (1, 6)] (by decide) _ ?_
  try simp only [pm, pmW, pmB, ft, ↓reduceIte, reduceCtorEq, nE, nA, nM, nD, nL, iL, iT, iE, iN, iC]
  refine lintName _ _ ?_
  rw [nm_8]
  try simp only [pm, pmW, pmB, ft, ↓reduceIte, reduceCtorEq, nE, nA, nM, nD, nL, iL, iT, iE, iN, iC]
  exact finK_rf k
theorem fits_int49 (r : List PV) (h : Fits [some .i64] r) : ∃ x : Int, r = [.int .i64 x] ∧ (x ≤ 9223372036854775807 ∧ -9223372036854775808 ≤ x) := by
  obtain ⟨a, r, rfl, ha, rfl⟩ := h
  have := wf64 ha
  exact ⟨a, rfl, by omega⟩
theorem flat_ints49 (l : List Int) : (List.map (fun x => [PV.int IntKind.i64 x]) l).flatten = l.map (.int .i64) := by
  induction l with
  | nil => rfl
  | cons x l ih => simp [ih]
end Go.Proofs.YtcgaphmndnmfdaaGreat
