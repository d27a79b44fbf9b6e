/-
  All that is odd in a text: the document's answer; the law LintChecks (P49.1).
  Conditions: a text of at most a thousand codes.
-/
import Derived.Test.YtcgaphmndnmfdaaGreatLin6
namespace Go.Proofs.YtcgaphmndnmfdaaGreat
open Go.Pm
open Nat renaming reduceEqDiff → nE, reduceAdd → nA, reduceMul → nM, reduceLeDiff → nD, reduceLT → nL
open Int renaming reduceLE → iL, reduceLT → iT, reduceEq → iE, reduceToNat → iN, cast_ofNat_Int → iC
set_option maxRecDepth 100000
set_option linter.unusedSimpArgs false
set_option linter.unusedVariables false
set_option maxHeartbeats 4000000

theorem fpl_of (q : Int → Int) (X : List Int) (s : Int × Int) (i : Nat) : fpl q X s i 8 = (kls q X s i 8).map fun k => ((i : Int), k) := rfl
theorem CheckR (fr : Bool) (X : List Int) (hl : X.length ≤ 1000) (h : Heap) {K : PV → Heap → Prop}
    (k : K (.list true 2 (findsT cccT X).length ((findsT cccT X).flatMap sp)) h) :
    CanP Tryz.prog 10 [.list fr 1 X.length (X.map (.int .i64))] h K := by
  refine e10 rfl ?_
  try simp only [c10, r10_0, r10_1, r10_2, r10_3, r10_4, r10_5, r10_6, r10_7, r10_8, r10_9, r10_10, r10_11, r10_12, r10_13, r10_14, r10_15, r10_16, pm, pmW, pmB, ft, ↓reduceIte, reduceCtorEq, nE, nA, nM, nD, nL, iL, iT, iE, iN, iC]
  refine SplitR _ X (by omega) _ ?_
  have hin := split_in X
  have hpl := splitT_len X
  rw [findsT] at k
  generalize splitT X = L at *
  try simp only [old_sp, pm, pmW, pmB, ft, ↓reduceIte, reduceCtorEq, nE, nA, nM, nD, nL, iL, iT, iE, iN, iC]
  refine pwp_up L.length (fun i σ h' => Acc h h' (σ 3) 2 ((L.take i).flatMap fun s => fpt cccT X s (s.2.toNat - s.1.toNat)).length (((L.take i).flatMap fun s => fpt cccT X s (s.2.toNat - s.1.toNat)).flatMap sp) ∧ h.le h' ∧ σ 0 = .list false 1 X.length (X.map (.int .i64)) ∧ (∃ f, σ 4 = .list f 2 L.length (L.flatMap sp)) ∧ σ 5 = .int .i64 i) ?_ ?_
  · exact ⟨Acc.nil _ _ _, Heap.le_refl _, rfl, ⟨_, by simp [put]; rfl⟩, by simp [put]⟩
  rintro i σ h' K' hi ⟨a, lh, s0, ⟨f4, s4⟩, s5⟩ next
  rcases Nat.lt_or_ge i L.length with hlt | hge
  · have hw : IntKind.i64.wrap ((i : Int) + 1) = (i : Int) + 1 := wrap_in (by omega) (by omega)
    have hz := flat_get sp 2 sp_len L hlt (j := 0) (by omega)
    have hz1 := flat_get sp 2 sp_len L hlt (j := 1) (by omega)
    rw [Nat.add_zero] at hz
    have hat := flat_at sp 2 sp_len L hlt
    have hx2 : i * 2 + 2 ≤ (L.flatMap sp).length := by rw [flat_length sp 2 sp_len]; omega
    have hq := hin _ (get_mem L hlt)
    have hf := take_succ_flat (fun s => fpt cccT X s (s.2.toNat - s.1.toNat)) L hlt
    have fb := finds_bound cccT X (L.take i) fun s hs => (hin s (List.mem_of_mem_take hs)).2.2
    have fb2 : (L.take i).length * (8 * X.length) ≤ 1000 * (8 * 1000) := Nat.mul_le_mul (by simp; omega) (by omega)
    generalize L.getD i default = s at *
    have hz' : (L.flatMap sp)[i * 2]? = some (.int .i64 s.1) := hz
    have hz1' : (L.flatMap sp)[i * 2 + 1]? = some (.int .i64 s.2) := hz1
    rw [show sp s = [.int .i64 s.1, .int .i64 s.2] from rfl] at hat
    have hcl := cut_le X s
    have hlc := cls_len (cutS X s)
    have ol := open_len (cls (cutS X s))
    have ll := loose_len (cls (cutS X s))
    have kO : ∀ {K : PV → Heap → Prop} {h : Heap} (fr : Bool), K (.list true 1 (openT (cls (cutS X s))).length ((openT (cls (cutS X s))).map (.int .i64))) h → CanP Tryz.prog 27 [.list fr 1 (cutS X s).length (((cutS X s).map classT).map (.int .i64))] h K := fun fr kk => by
      have := OpenR fr (cls (cutS X s)) (by omega) _ kk
      rwa [cls_len] at this
    have kL : ∀ {K : PV → Heap → Prop} {h : Heap} (fr : Bool), K (.list true 1 (wkT (cls (cutS X s))).ls.length ((wkT (cls (cutS X s))).ls.map (.int .i64))) h → CanP Tryz.prog 28 [.list fr 1 (cutS X s).length (((cutS X s).map classT).map (.int .i64))] h K := fun fr kk => by
      have := LooseR fr (cls (cutS X s)) (by omega) _ kk
      rwa [cls_len] at this
    try simp only [s0, s4, s5, hlt, hz', hz1', pm, pmW, pmB, ft, ↓reduceIte, reduceCtorEq, nE, nA, nM, nD, nL, iL, iT, iE, iN, iC]
    rw [slcS hq.1 (by omega) hq.2.2]
    try simp only [pm, pmW, pmB, ft, ↓reduceIte, reduceCtorEq, nE, nA, nM, nD, nL, iL, iT, iE, iN, iC]
    refine ⟨_, ClassesR _ (cutS X s) (by omega) _ ⟨rfl, rfl⟩, ?_⟩
    try simp only [pm, pmW, pmB, ft, ↓reduceIte, reduceCtorEq, nE, nA, nM, nD, nL, iL, iT, iE, iN, iC]
    refine kO _ ?_
    try simp only [pm, pmW, pmB, ft, ↓reduceIte, reduceCtorEq, nE, nA, nM, nD, nL, iL, iT, iE, iN, iC]
    refine kL _ ?_
    try simp only [s4, s5, hlt, hz', pm, pmW, pmB, ft, ↓reduceIte, reduceCtorEq, nE, nA, nM, nD, nL, iL, iT, iE, iN, iC]
    generalize (L.take i).flatMap (fun s => fpt cccT X s (s.2.toNat - s.1.toNat)) = A at *
    obtain ⟨lo, elo⟩ : ∃ lo : Nat, s.1 = lo := ⟨s.1.toNat, by omega⟩
    obtain ⟨m, em⟩ : ∃ m : Nat, s.2 = ((lo + m : Nat) : Int) := ⟨(s.2 - s.1).toNat, by omega⟩
    have hlo : s.1.toNat = lo := by omega
    have hmm : s.2.toNat - s.1.toNat = m := by omega
    rw [hmm] at hf
    generalize hO : openT (cls (cutS X s)) = O at *
    generalize hLL : (wkT (cls (cutS X s))).ls = LL at *
    refine pwp_up m (fun j σ' h9 => Acc h h9 (σ' 3) 2 (A ++ fpt cccT X s j).length ((A ++ fpt cccT X s j).flatMap sp) ∧ h.le h9 ∧ σ' 0 = σ 0 ∧ σ' 4 = σ 4 ∧ σ' 5 = σ 5 ∧ (∃ f, σ' 7 = .list f 1 O.length (O.map (.int .i64))) ∧ (∃ f, σ' 8 = .list f 1 LL.length (LL.map (.int .i64))) ∧ σ' 9 = .int .i64 ((lo + j : Nat) : Int)) ?_ ?_
    · rw [fpt, List.append_nil]
      exact ⟨by simpa [put] using a, lh, by simp [put], by simp [put], by simp [put], ⟨_, by simp [put]; rfl⟩, ⟨_, by simp [put]; rfl⟩, by simp [put, elo]⟩
    rintro j σ9 h9 K9 hj ⟨a9, l9, z0, z4, z5, ⟨f7, z7⟩, ⟨f8, z8⟩, z9⟩ next9
    rw [s0] at z0
    rw [s4] at z4
    rw [s5] at z5
    have fl9 := fpt_len cccT X s j
    rcases Nat.lt_or_ge j m with hjl | hjg
    · have hlt9 : ((lo + j : Nat) : Int) < s.2 := by rw [em]; omega
      have hw9 : IntKind.i64.wrap (((lo + j : Nat) : Int) + 1) = ((lo + (j + 1) : Nat) : Int) := by rw [wrap_in (by omega) (by omega)]; omega
      have hfp : fpt cccT X s (j + 1) = fpt cccT X s j ++ (kls cccT X s (lo + j) 8).map fun k => (((lo + j : Nat) : Int), k) := by rw [fpt, hlo]; rfl
      have kl := kls_len cccT X s (lo + j) 8
      try simp only [z0, z4, z5, z7, z8, z9, hlt, hz1', hlt9, hx2, hat, pm, pmW, pmB, ft, ↓reduceIte, reduceCtorEq, nE, nA, nM, nD, nL, iL, iT, iE, iN, iC]
      refine kindsR _ _ _ X hl s hq O LL (by omega) (by omega) hO hLL (lo + j) (by omega) _ ?_
      generalize kls cccT X s (lo + j) 8 = M at *
      try simp only [pm, pmW, pmB, ft, ↓reduceIte, reduceCtorEq, nE, nA, nM, nD, nL, iL, iT, iE, iN, iC]
      refine pwp_up M.length (fun n σ' h8 => Acc h h8 (σ' 3) 2 (A ++ fpt cccT X s j ++ (M.take n).map fun k => (((lo + j : Nat) : Int), k)).length ((A ++ fpt cccT X s j ++ (M.take n).map fun k => (((lo + j : Nat) : Int), k)).flatMap sp) ∧ h.le h8 ∧ σ' 0 = σ9 0 ∧ σ' 4 = σ9 4 ∧ σ' 5 = σ9 5 ∧ σ' 7 = σ9 7 ∧ σ' 8 = σ9 8 ∧ σ' 9 = σ9 9 ∧ (∃ f, σ' 10 = .list f 1 M.length (M.map (.int .i64))) ∧ σ' 11 = .int .i64 n) ?_ ?_
      · rw [List.take_zero, List.map_nil, List.append_nil]
        exact ⟨by simpa [put] using a9, l9, by simp [put], by simp [put], by simp [put], by simp [put], by simp [put], by simp [put], ⟨_, by simp [put]; rfl⟩, by simp [put]⟩
      rintro n σ8 h8 K8 hn ⟨a8, l8, y0, y4, y5, y7, y8, y9, ⟨f10, y10⟩, y11⟩ next8
      rcases Nat.lt_or_ge n M.length with hnl | hng
      · have hw8 : IntKind.i64.wrap ((n : Int) + 1) = (n : Int) + 1 := wrap_in (by omega) (by omega)
        have hx := getm (PV.int .i64) M hnl
        have ht : M.take (n + 1) = M.take n ++ [M.getD n default] := by
          rw [List.take_add_one, List.getD, List.getElem?_eq_getElem hnl]; rfl
        generalize M.getD n default = c at *
        have hB : (A ++ fpt cccT X s j ++ (M.take n).map fun k => (((lo + j : Nat) : Int), k)).length ≤ 10000000 := by simp only [List.length_append, List.length_map, List.length_take]; omega
        try simp only [y9, z9, y10, y11, hnl, hx, pm, pmW, pmB, ft, ↓reduceIte, reduceCtorEq, nE, nA, nM, nD, nL, iL, iT, iE, iN, iC]
        refine a8.app l8 (by decide) rfl (by omega) (by simp only [maxLen]; omega) fun v5 h5 a5 l5 sd5 => ?_
        have a5' := acc_sp a5
        try simp only [y11, hw8, pm, pmW, pmB, ft, ↓reduceIte, reduceCtorEq, nE, nA, nM, nD, nL, iL, iT, iE, iN, iC]
        refine next8 hnl _ _ ?_
        rw [ht, List.map_append, ← List.append_assoc]
        exact ⟨by simpa [put] using a5', l5, by simp [put, y0], by simp [put, y4], by simp [put, y5], by simp [put, y7], by simp [put, y8], by simp [put, y9], ⟨f10, by simp [put, y10]⟩, by simp [put]⟩
      · have e : n = M.length := by omega
        subst e
        have hnl := Nat.lt_irrefl M.length
        rw [List.take_length] at a8
        rw [z0] at y0
        rw [z4] at y4
        rw [z5] at y5
        rw [z9] at y9
        try simp only [y9, y10, y11, hnl, hw9, pm, pmW, pmB, ft, ↓reduceIte, reduceCtorEq, nE, nA, nM, nD, nL, iL, iT, iE, iN, iC]
        refine next9 hjl _ _ ?_
        rw [hfp, ← List.append_assoc]
        exact ⟨by simpa [put] using a8, l8, by simp [put, y0, s0], by simp [put, y4, s4], by simp [put, y5, s5], ⟨f7, by simp [put, y7, z7]⟩, ⟨f8, by simp [put, y8, z8]⟩, by simp [put]⟩
    · have e : j = m := by omega
      subst e
      have hlt9 : ¬ ((lo + j : Nat) : Int) < s.2 := by rw [em]; omega
      try simp only [z4, z5, z9, hlt, hz1', hlt9, hw, pm, pmW, pmB, ft, ↓reduceIte, reduceCtorEq, nE, nA, nM, nD, nL, iL, iT, iE, iN, iC]
      refine next hlt _ _ ?_
      rw [hf]
      exact ⟨by simpa [put] using a9, l9, by simp [put, z0], ⟨f4, by simp [put, z4]⟩, by simp [put]⟩
  · have e : i = L.length := by omega
    subst e
    have hnl := Nat.lt_irrefl L.length
    try simp only [s4, s5, hnl, pm, pmW, pmB, ft, ↓reduceIte, reduceCtorEq, nE, nA, nM, nD, nL, iL, iT, iE, iN, iC]
    rw [List.take_length] at a
    refine a.fin lh ?_
    rw [old_sp]; exact k
theorem finds_len7 (X : List Int) (hl : X.length ≤ 1000) : (findsT cccT X).length ≤ 10000000 := by
  have a := finds_bound cccT X (splitT X) fun s hs => (split_in X s hs).2.2
  have b := splitT_len X
  have c : (splitT X).length * (8 * X.length) ≤ 1000 * (8 * 1000) := Nat.mul_le_mul (by omega) (by omega)
  rw [findsT]; omega
theorem law_LintChecks (X : List Int) (hl : X.length ≤ 9223372036854775806) (h : Heap) {K : PV → Heap → Prop} (k : K (.bool true) h) :
    CanP Tryz.prog 3 [.list false 1 X.length (X.map (.int .i64))] h K := by
  refine e3 rfl ?_
  try simp only [c3, r3_0, r3_1, r3_2, r3_3, r3_4, r3_5, r3_6, r3_7, r3_8, r3_9, r3_10, r3_11, r3_12, pm, pmW, pmB, ft, ↓reduceIte, reduceCtorEq, nE, nA, nM, nD, nL, iL, iT, iE, iN, iC]
  by_cases h1 : 60 < X.length
  · have h1' : (60 : Int) < (X.length : Int) := by omega
    try simp only [h1', pm, pmW, pmB, ft, ↓reduceIte, reduceCtorEq, nE, nA, nM, nD, nL, iL, iT, iE, iN, iC]
    refine awake _ ?_
    try simp only [pm, pmW, pmB, ft, ↓reduceIte, reduceCtorEq, nE, nA, nM, nD, nL, iL, iT, iE, iN, iC]
    exact finK_rf k
  have h1' : ¬ (60 : Int) < (X.length : Int) := by omega
  have hfl := finds_len7 X (by omega)
  try simp only [h1', pm, pmW, pmB, ft, ↓reduceIte, reduceCtorEq, nE, nA, nM, nD, nL, iL, iT, iE, iN, iC]
  refine New _ fun p hp => ?_
  try simp only [pm, pmW, pmB, ft, ↓reduceIte, reduceCtorEq, nE, nA, nM, nD, nL, iL, iT, iE, iN, iC]
  refine cccNew _ fun c hc => ?_
  try simp only [pm, pmW, pmB, ft, ↓reduceIte, reduceCtorEq, nE, nA, nM, nD, nL, iL, iT, iE, iN, iC]
  refine lintCheck p hp c cccT hc _ X (by omega) _ ?_
  try simp only [pm, pmW, pmB, ft, ↓reduceIte, reduceCtorEq, nE, nA, nM, nD, nL, iL, iT, iE, iN, iC]
  refine CheckR _ X (by omega) _ ?_
  generalize findsT cccT X = F at *
  try simp only [pm, pmW, pmB, ft, ↓reduceIte, reduceCtorEq, nE, nA, nM, nD, nL, iL, iT, iE, iN, iC]
  refine pwp_up F.length (fun i σ h' => h' = h ∧ (∃ f, σ 3 = .list f 2 F.length (F.flatMap sp)) ∧ (∃ f, σ 4 = .list f 2 F.length (F.flatMap sp)) ∧ σ 22 = .int .i64 F.length ∧ σ 23 = .int .i64 i) ?_ ?_
  · exact ⟨rfl, ⟨_, by simp [put]; rfl⟩, ⟨_, by simp [put]; rfl⟩, by simp [put], by simp [put]⟩
  rintro i σ h' K' hi ⟨rfl, ⟨f3, s3⟩, ⟨f4, s4⟩, s22, s23⟩ next
  rcases Nat.lt_or_ge i F.length with hlt | hge
  · have hw : IntKind.i64.wrap ((i : Int) + 1) = (i : Int) + 1 := wrap_in (by omega) (by omega)
    have hz := flat_get sp 2 sp_len F hlt (j := 0) (by omega)
    have hz1 := flat_get sp 2 sp_len F hlt (j := 1) (by omega)
    rw [Nat.add_zero] at hz
    generalize F.getD i default = x at *
    have hz' : (F.flatMap sp)[i * 2]? = some (.int .i64 x.1) := hz
    have hz1' : (F.flatMap sp)[i * 2 + 1]? = some (.int .i64 x.2) := hz1
    try simp only [s3, s4, s22, s23, hlt, hz', hz1', hw, pm, pmW, pmB, ft, ↓reduceIte, reduceCtorEq, nE, nA, nM, nD, nL, iL, iT, iE, iN, iC]
    refine next hlt _ _ ?_
    exact ⟨rfl, ⟨f3, by simp [put, s3]⟩, ⟨f4, by simp [put, s4]⟩, by simp [put, s22], by simp [put]⟩
  · have e : i = F.length := by omega
    subst e
    have hnl := Nat.lt_irrefl F.length
    try simp only [s22, s23, hnl, pm, pmW, pmB, ft, ↓reduceIte, reduceCtorEq, nE, nA, nM, nD, nL, iL, iT, iE, iN, iC]
    refine awake _ ?_
    try simp only [pm, pmW, pmB, ft, ↓reduceIte, reduceCtorEq, nE, nA, nM, nD, nL, iL, iT, iE, iN, iC]
    exact finK_rf k
def kinds_LintChecks : List AKind := [.row [some .i64] 8]
theorem all_LintChecks (pvs : List PV) (h : IsArgs kinds_LintChecks pvs) : CanP Tryz.prog 3 pvs Heap.nil (fun v _ => v = .bool true) := by
  obtain ⟨p, r, rfl, ⟨rows, hr, hz, hl, rfl⟩, rfl⟩ := h
  obtain ⟨o, rfl, ho⟩ := rows_of (fun x => [.int .i64 x]) _ fits_int49 hr
  rw [flat_ints49]
  simp only [List.length_map] at hl hz ⊢
  exact law_LintChecks o (by omega) _ rfl
end Go.Proofs.YtcgaphmndnmfdaaGreat
