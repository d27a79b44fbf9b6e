/-
  The document's Even; the laws BalanceTells and BalanceEven.
-/
import Derived.Test.YtcgaphmndnmfdaaGreatBalC
namespace Go.Proofs.YtcgaphmndnmfdaaGreat
open Go.Pm
open Nat renaming reduceEqDiff → nE, reduceAdd → nA, reduceMul → nM, reduceLeDiff → nD, reduceLT → nL
open Int renaming reduceLE → iL, reduceLT → iT, reduceEq → iE, reduceToNat → iN, cast_ofNat_Int → iC
set_option maxRecDepth 100000
set_option linter.unusedSimpArgs false
set_option linter.unusedVariables false

theorem acc_add {h h' : Heap} {v : PV} {A B : List Int} (a : Acc h h' v 1 (A.length + B.length) (A.map (.int .i64) ++ B.map (.int .i64))) : Acc h h' v 1 (A ++ B).length ((A ++ B).map (.int .i64)) := by
  rw [List.length_append, List.map_append]; exact a
/-- What is gathered of a paragraph's first codes. -/
def evI (X : List Int) (k : Nat) : List Int :=
  if k ≤ bodyT X then sty X (wkT (cls X)).ls 0 k else sty X (wkT (cls X)).ls 0 (bodyT X) ++ endsT (cls X) ++ sty X (wkT (cls X)).ls (bodyT X) (k - bodyT X)
theorem evI_len (X : List Int) (k : Nat) : (evI X k).length ≤ k + X.length := by
  obtain ⟨-, ok2⟩ := wkT_ok (cls X)
  rw [cls_len] at ok2
  have l3 : (endsT (cls X)).length = (wkT (cls X)).st.length := by simp [endsT]
  unfold evI
  split
  · have := sty_len X (wkT (cls X)).ls 0 k; omega
  · have l1 := sty_len X (wkT (cls X)).ls 0 (bodyT X)
    have l2 := sty_len X (wkT (cls X)).ls (bodyT X) (k - bodyT X)
    rw [List.length_append, List.length_append, l3]; omega
theorem evI_step (X : List Int) {k : Nat} (hk : k < X.length) : evI X (k + 1) = (evI X k ++ (if k = bodyT X then endsT (cls X) else [])) ++ (if (k : Int) ∈ (wkT (cls X)).ls then [] else [X.getD k default]) := by
  have hb := body_le X
  unfold evI
  by_cases h1 : k < bodyT X
  · rw [if_pos (by omega), if_pos (by omega), if_neg (by omega), List.append_nil, sty, Nat.zero_add]
    split
    · rw [List.append_nil]
    · rfl
  · by_cases h2 : k = bodyT X
    · subst h2
      rw [if_neg (by omega), if_pos (Nat.le_refl _), if_pos rfl, show bodyT X + 1 - bodyT X = 0 + 1 by omega, sty, Nat.add_zero]
      split
      · simp [sty]
      · simp [sty]
    · rw [if_neg (by omega), if_neg (by omega), if_neg h2, List.append_nil, show k + 1 - bodyT X = (k - bodyT X) + 1 by omega, sty, show bodyT X + (k - bodyT X) = k by omega]
      split
      · rw [List.append_nil]
      · simp
theorem evI_end (X : List Int) : evI X X.length ++ (if bodyT X = X.length then endsT (cls X) else []) = evenT X := by
  have hb := body_le X
  unfold evI evenT
  by_cases h1 : bodyT X = X.length
  · rw [if_pos (by omega), if_pos h1, h1, Nat.sub_self, sty, List.append_nil]
  · rw [if_neg (by omega), if_neg h1, List.append_nil]
theorem EvenR (fr : Bool) (X : List Int) (hl : X.length ≤ 1000) (h : Heap) {K : PV → Heap → Prop} (k : K (.list true 1 (evenX X).length ((evenX X).map (.int .i64))) h) :
    CanP Tryz.prog 36 [.list fr 1 X.length (X.map (.int .i64))] h K := by
  refine e36 rfl ?_
  try simp only [c36, r36_0, r36_1, r36_2, r36_3, r36_4, r36_5, r36_6, r36_7, r36_8, r36_9, r36_10, r36_11, r36_12, r36_13, r36_14, r36_15, r36_16, r36_17, r36_18, pm, pmW, pmB, ft, ↓reduceIte, reduceCtorEq, nE, nA, nM, nD, nL, iL, iT, iE, iN, iC]
  refine SplitR _ X (by omega) _ ?_
  have hin := split_in X
  have hpl := splitT_len X
  rw [evenX] at k
  generalize splitT X = L at *
  try simp only [old_sp, pm, pmW, pmB, ft, ↓reduceIte, reduceCtorEq, nE, nA, nM, nD, nL, iL, iT, iE, iN, iC]
  refine pwp_up L.length (fun i σ h' => Acc h h' (σ 3) 1 ((L.take i).flatMap fun s => evenT (cutS X s)).length (((L.take i).flatMap fun s => evenT (cutS X s)).map (.int .i64)) ∧ h.le h' ∧ σ 0 = .list false 1 X.length (X.map (.int .i64)) ∧ (∃ f, σ 4 = .list f 2 L.length (L.flatMap sp)) ∧ σ 5 = .int .i64 i) ?_ ?_
  · exact ⟨Acc.nil _ _ _, Heap.le_refl _, rfl, ⟨_, by simp [put]; rfl⟩, by simp [put]⟩
  rintro i σ h' K' hi ⟨a, lh, s0, ⟨f4, s4⟩, s5⟩ next
  rcases Nat.lt_or_ge i L.length with hlt | hge
  · have hw : IntKind.i64.wrap ((i : Int) + 1) = (i : Int) + 1 := wrap_in (by omega) (by omega)
    have hz := flat_get sp 2 sp_len L hlt (j := 0) (by omega)
    have hz1 := flat_get sp 2 sp_len L hlt (j := 1) (by omega)
    rw [Nat.add_zero] at hz
    have hq := hin _ (get_mem L hlt)
    have hf := take_succ_flat (fun s => evenT (cutS X s)) L hlt
    have fb := flat_bound X (L.take i)
    have fb2 : (L.take i).length * (2 * X.length) ≤ 1000 * (2 * 1000) := Nat.mul_le_mul (by simp; omega) (by omega)
    generalize L.getD i default = q at *
    have hz' : (L.flatMap sp)[i * 2]? = some (.int .i64 q.1) := hz
    have hz1' : (L.flatMap sp)[i * 2 + 1]? = some (.int .i64 q.2) := hz1
    have hcl := cut_le X q
    have kC : ∀ {K : PV → Heap → Prop} {h : Heap} (fr : Bool), K (.list true 1 (wkT (cls (cutS X q))).st.length ((endsT (cls (cutS X q))).map (.int .i64))) h → CanP Tryz.prog 77 [.list fr 1 (cutS X q).length (((cutS X q).map classT).map (.int .i64))] h K := fun fr kk => by
      have := CloseR fr (cls (cutS X q)) (by rw [cls_len]; omega) _ kk
      rwa [cls_len] at this
    have kL : ∀ {K : PV → Heap → Prop} {h : Heap} (fr : Bool), K (.list true 1 (wkT (cls (cutS X q))).ls.length ((wkT (cls (cutS X q))).ls.map (.int .i64))) h → CanP Tryz.prog 28 [.list fr 1 (cutS X q).length (((cutS X q).map classT).map (.int .i64))] h K := fun fr kk => by
      have := LooseR fr (cls (cutS X q)) (by rw [cls_len]; omega) _ kk
      rwa [cls_len] at this
    try simp only [s0, s4, s5, hlt, hz', hz1', pm, pmW, pmB, ft, ↓reduceIte, reduceCtorEq, nE, nA, nM, nD, nL, iL, iT, iE, iN, iC]
    rw [slcS hq.1 (by omega) hq.2.2]
    try simp only [pm, pmW, pmB, ft, ↓reduceIte, reduceCtorEq, nE, nA, nM, nD, nL, iL, iT, iE, iN, iC]
    generalize hP : cutS X q = P at *
    refine ClassesR _ P (by omega) _ ?_
    try simp only [pm, pmW, pmB, ft, ↓reduceIte, reduceCtorEq, nE, nA, nM, nD, nL, iL, iT, iE, iN, iC]
    refine kL _ ?_
    try simp only [pm, pmW, pmB, ft, ↓reduceIte, reduceCtorEq, nE, nA, nM, nD, nL, iL, iT, iE, iN, iC]
    refine bodyR _ P (by omega) _ ?_
    try simp only [pm, pmW, pmB, ft, ↓reduceIte, reduceCtorEq, nE, nA, nM, nD, nL, iL, iT, iE, iN, iC]
    have hel := fun k => evI_len P k
    have hes := fun k (hk : k < P.length) => evI_step P hk
    have hee := evI_end P
    obtain ⟨-, ok2⟩ := wkT_ok (cls P)
    rw [cls_len] at ok2
    have l3 : (endsT (cls P)).length = (wkT (cls P)).st.length := by simp [endsT]
    have l4 : (wkT (cls P)).ls.length ≤ 1000000 := by omega
    have l5 : (wkT (cls P)).st.length ≤ 1000 := by omega
    have hb := body_le P
    have hev0 : evI P 0 = [] := by simp [evI, sty]
    generalize (L.take i).flatMap (fun s => evenT (cutS X s)) = A at *
    generalize (wkT (cls P)).ls = LS at *
    generalize endsT (cls P) = E at *
    rw [← l3] at kC l5
    have s0' := s0
    refine pwp_up P.length (fun j σ' h9 => Acc h h9 (σ' 3) 1 (A ++ evI P j).length ((A ++ evI P j).map (.int .i64)) ∧ h.le h9 ∧ σ' 0 = σ 0 ∧ σ' 4 = σ 4 ∧ σ' 5 = σ 5 ∧ (∃ f, σ' 6 = .list f 1 P.length (P.map (.int .i64))) ∧ (∃ f, σ' 7 = .list f 1 P.length ((P.map classT).map (.int .i64))) ∧ (∃ f, σ' 8 = .list f 1 LS.length (LS.map (.int .i64))) ∧ σ' 9 = .int .i64 (bodyT P : Nat) ∧ σ' 10 = .int .i64 j) ?_ ?_
    · rw [hev0, List.append_nil]
      exact ⟨by simpa [put] using a, lh, by simp [put], by simp [put], by simp [put], ⟨_, by simp [put]; rfl⟩, ⟨_, by simp [put]; rfl⟩, ⟨_, by simp [put]; rfl⟩, by simp [put], by simp [put]⟩
    rintro j σ9 h9 K9 hj ⟨a9, l9, z0, z4, z5, ⟨f6, z6⟩, ⟨f7, z7⟩, ⟨f8, z8⟩, z9, z10⟩ next9
    have hel' := hel j
    rcases Nat.lt_or_ge j P.length with hjl | hjg
    · have hw2 : IntKind.i64.wrap ((j : Int) + 1) = (j : Int) + 1 := wrap_in (by omega) (by omega)
      have hx := getm (PV.int .i64) P hjl
      have hs := hes j hjl
      generalize P.getD j default = c at *
      have hB : (A ++ evI P j ++ (if j = bodyT P then E else [])).length ≤ 10000000 := by
        simp only [List.length_append]
        split
        · omega
        · simp; omega
      have fin9 : ∀ (σ' : Sl) (h' : Heap), Acc h h' (σ' 3) 1 (A ++ evI P (j + 1)).length ((A ++ evI P (j + 1)).map (.int .i64)) → h.le h' → σ' 0 = σ9 0 → σ' 4 = σ9 4 → σ' 5 = σ9 5 → σ' 6 = σ9 6 → σ' 7 = σ9 7 → σ' 8 = σ9 8 → σ' 9 = σ9 9 → σ' 10 = .int .i64 ((j : Int) + 1) → K9 σ' h' :=
        fun σ' h' q3 ql q0 q4 q5 q6 q7 q8 q9 q10 => next9 hjl _ _ ⟨q3, ql, q0.trans z0, q4.trans z4, q5.trans z5, ⟨f6, q6.trans z6⟩, ⟨f7, q7.trans z7⟩, ⟨f8, q8.trans z8⟩, q9.trans z9, by rw [q10]; rfl⟩
      by_cases hjb : j = bodyT P
      · have hd : decide (j = bodyT P) = true := decide_eq_true hjb
        rw [if_pos hjb] at hs hB
        try simp only [z6, z7, z9, z10, hjl, hd, pm, pmW, pmB, ft, ↓reduceIte, reduceCtorEq, nE, nA, nM, nD, nL, iL, iT, iE, iN, iC]
        refine kC _ ?_
        try simp only [pm, pmW, pmB, ft, ↓reduceIte, reduceCtorEq, nE, nA, nM, nD, nL, iL, iT, iE, iN, iC]
        refine a9.appA (m := E.length) (new := E.map (.int .i64)) l9 (by simp) (by simp only [List.length_append] at hB ⊢; omega) (by simp only [maxLen, List.length_append] at hB ⊢; omega) fun v4 h4 a4 l4 sd4 => ?_
        have a4' : Acc h h4 v4 1 (A ++ evI P j ++ E).length ((A ++ evI P j ++ E).map (.int .i64)) := acc_add a4
        try simp only [z8, z10, pm, pmW, pmB, ft, ↓reduceIte, reduceCtorEq, nE, nA, nM, nD, nL, iL, iT, iE, iN, iC]
        refine has_ _ LS (by omega) _ _ ?_
        by_cases hm : (j : Int) ∈ LS
        · rw [if_pos hm, List.append_nil] at hs
          rw [decide_eq_true hm]
          try simp only [z10, hw2, pm, pmW, pmB, ft, ↓reduceIte, reduceCtorEq, nE, nA, nM, nD, nL, iL, iT, iE, iN, iC]
          exact fin9 _ _ (by rw [hs, ← List.append_assoc]; simpa [put] using a4') l4 (by simp [put]) (by simp [put]) (by simp [put]) (by simp [put]) (by simp [put]) (by simp [put]) (by simp [put]) (by simp [put])
        · rw [if_neg hm] at hs
          rw [decide_eq_false hm]
          try simp only [z6, z10, hjl, hx, pm, pmW, pmB, ft, ↓reduceIte, reduceCtorEq, nE, nA, nM, nD, nL, iL, iT, iE, iN, iC]
          refine a4'.app l4 (by decide) rfl (by omega) (by simp only [maxLen]; omega) fun v5 h5 a5 l5' sd5 => ?_
          try simp only [z10, hw2, pm, pmW, pmB, ft, ↓reduceIte, reduceCtorEq, nE, nA, nM, nD, nL, iL, iT, iE, iN, iC]
          exact fin9 _ _ (by rw [hs, ← List.append_assoc, ← List.append_assoc]; exact acc_add (B := [c]) a5) l5' (by simp [put]) (by simp [put]) (by simp [put]) (by simp [put]) (by simp [put]) (by simp [put]) (by simp [put]) (by simp [put])
      · have hd : decide (j = bodyT P) = false := decide_eq_false hjb
        rw [if_neg hjb] at hs hB
        rw [List.append_nil] at hs hB
        try simp only [z6, z7, z8, z9, z10, hjl, hd, pm, pmW, pmB, ft, ↓reduceIte, reduceCtorEq, nE, nA, nM, nD, nL, iL, iT, iE, iN, iC]
        refine has_ _ LS (by omega) _ _ ?_
        by_cases hm : (j : Int) ∈ LS
        · rw [if_pos hm, List.append_nil] at hs
          rw [decide_eq_true hm]
          try simp only [z10, hw2, pm, pmW, pmB, ft, ↓reduceIte, reduceCtorEq, nE, nA, nM, nD, nL, iL, iT, iE, iN, iC]
          exact fin9 _ _ (by rw [hs]; simpa [put] using a9) l9 (by simp [put]) (by simp [put]) (by simp [put]) (by simp [put]) (by simp [put]) (by simp [put]) (by simp [put]) (by simp [put])
        · rw [if_neg hm] at hs
          rw [decide_eq_false hm]
          try simp only [z6, z10, hjl, hx, pm, pmW, pmB, ft, ↓reduceIte, reduceCtorEq, nE, nA, nM, nD, nL, iL, iT, iE, iN, iC]
          refine a9.app l9 (by decide) rfl (by omega) (by simp only [maxLen]; omega) fun v5 h5 a5 l5' sd5 => ?_
          try simp only [z10, hw2, pm, pmW, pmB, ft, ↓reduceIte, reduceCtorEq, nE, nA, nM, nD, nL, iL, iT, iE, iN, iC]
          exact fin9 _ _ (by rw [hs, ← List.append_assoc]; exact acc_add (B := [c]) a5) l5' (by simp [put]) (by simp [put]) (by simp [put]) (by simp [put]) (by simp [put]) (by simp [put]) (by simp [put]) (by simp [put])
    · have e : j = P.length := by omega
      subst e
      have hnl := Nat.lt_irrefl P.length
      by_cases hjb : bodyT P = P.length
      · have hd : decide (bodyT P = P.length) = true := decide_eq_true hjb
        rw [if_pos hjb] at hee
        try simp only [z6, z7, z9, z10, hnl, hd, pm, pmW, pmB, ft, ↓reduceIte, reduceCtorEq, nE, nA, nM, nD, nL, iL, iT, iE, iN, iC]
        refine kC _ ?_
        try simp only [pm, pmW, pmB, ft, ↓reduceIte, reduceCtorEq, nE, nA, nM, nD, nL, iL, iT, iE, iN, iC]
        refine a9.appA (m := E.length) (new := E.map (.int .i64)) l9 (by simp) (by simp only [List.length_append]; omega) (by simp only [maxLen, List.length_append]; omega) fun v4 h4 a4 l4 sd4 => ?_
        have a4' : Acc h h4 v4 1 (A ++ evI P P.length ++ E).length ((A ++ evI P P.length ++ E).map (.int .i64)) := acc_add a4
        rw [List.append_assoc, hee, ← hf] at a4'
        try simp only [z5, s5, hw, pm, pmW, pmB, ft, ↓reduceIte, reduceCtorEq, nE, nA, nM, nD, nL, iL, iT, iE, iN, iC]
        refine next hlt _ _ ?_
        exact ⟨by simpa [put] using a4', l4, by simp [put, z0, s0], ⟨f4, by simp [put, z4, s4]⟩, by simp [put]⟩
      · have hd : decide (bodyT P = P.length) = false := decide_eq_false hjb
        rw [if_neg hjb, List.append_nil] at hee
        rw [hee, ← hf] at a9
        try simp only [z5, z6, z9, z10, hnl, hd, s5, hw, pm, pmW, pmB, ft, ↓reduceIte, reduceCtorEq, nE, nA, nM, nD, nL, iL, iT, iE, iN, iC]
        refine next hlt _ _ ?_
        exact ⟨by simpa [put] using a9, l9, by simp [put, z0, s0], ⟨f4, by simp [put, z4, s4]⟩, by simp [put]⟩
  · have e : i = L.length := by omega
    subst e
    have hnl := Nat.lt_irrefl L.length
    try simp only [s4, s5, hnl, pm, pmW, pmB, ft, ↓reduceIte, reduceCtorEq, nE, nA, nM, nD, nL, iL, iT, iE, iN, iC]
    rw [List.take_length] at a
    refine a.fin lh ?_
    rw [olds_ints]; exact k
end Go.Proofs.YtcgaphmndnmfdaaGreat
