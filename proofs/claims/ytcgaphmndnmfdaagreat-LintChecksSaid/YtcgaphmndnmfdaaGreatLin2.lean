/-
  All that is odd in a text (lint.Check): the package's walk.
  Conditions: a text of at most a thousand codes.
-/
import Derived.Test.YtcgaphmndnmfdaaGreatLin1
namespace Go.Proofs.YtcgaphmndnmfdaaGreat
open Go.Pm
open Nat renaming reduceEqDiff → nE, reduceAdd → nA, reduceMul → nM, reduceLeDiff → nD, reduceLT → nL
open Int renaming reduceLE → iL, reduceLT → iT, reduceEq → iE, reduceToNat → iN, cast_ofNat_Int → iC
set_option maxRecDepth 100000
set_option linter.unusedSimpArgs false
set_option linter.unusedVariables false

theorem lintIs (f g f2 : Bool) (p : PV) (hp : PR p) (hp2 : p.old = p) (c : PV) (q : Int → Int) (hc : CO c q) (hc2 : c.old = c) (X : List Int) (hl : X.length ≤ 1000) (s : Int × Int) (hs : 0 ≤ s.1 ∧ s.1 < s.2 ∧ s.2 ≤ (X.length : Int)) (i : Nat) (hi : s.1 ≤ i ∧ (i : Int) < s.2) (k0 : Int) (hk : 1 ≤ k0 ∧ k0 ≤ 8) (h : Heap) {K : PV → Heap → Prop}
    (k : K (.bool (kindT q X s k0 i)) h) :
    CanP Tryz.prog 20 [partV f g (textV f2 p c X) s (openT (cls (cutS X s))) (wkT (cls (cutS X s))).ls, .int .i64 k0, .int .i64 i] h K := by
  refine e20 rfl ?_
  have hcl := cut_le X s
  have hlc := cls_len (cutS X s)
  have ol := open_len (cls (cutS X s))
  have ll := loose_len (cls (cutS X s))
  have oa := open_asc (cls (cutS X s))
  have la := loose_asc (cls (cutS X s))
  have hiX : i < X.length := by omega
  have hx := getm (PV.int .i64) X hiX
  rw [show X.getD i default = at0 X i from rfl] at hx
  rcases (show k0 = 1 ∨ k0 = 2 ∨ k0 = 3 ∨ k0 = 4 ∨ k0 = 5 ∨ k0 = 6 ∨ k0 = 7 ∨ k0 = 8 by omega) with rfl | rfl | rfl | rfl | rfl | rfl | rfl | rfl
  · rw [kindT, if_pos rfl] at k
    try simp only [c20, r20_0, r20_1, r20_2, r20_3, r20_4, r20_5, r20_6, r20_7, r20_8, r20_9, r20_10, r20_11, r20_12, r20_13, r20_14, r20_15, r20_16, r20_17, r20_18, partV, old_textV, hp2, hc2, pm, pmW, pmB, ft, ↓reduceIte, reduceCtorEq, nE, nA, nM, nD, nL, iL, iT, iE, iN, iC]
    refine lintIll _ _ _ X i hiX _ ?_
    try simp only [pm, pmW, pmB, ft, ↓reduceIte, reduceCtorEq, nE, nA, nM, nD, nL, iL, iT, iE, iN, iC]
    exact finK_rf k
  · rw [kindT, if_neg (by decide), if_pos rfl] at k
    generalize openT (cls (cutS X s)) = O at *
    generalize (wkT (cls (cutS X s))).ls = L at *
    try simp only [c20, r20_0, r20_1, r20_2, r20_3, r20_4, r20_5, r20_6, r20_7, r20_8, r20_9, r20_10, r20_11, r20_12, r20_13, r20_14, r20_15, r20_16, r20_17, r20_18, partV, old_textV, hp2, hc2, pm, pmW, pmB, ft, ↓reduceIte, reduceCtorEq, nE, nA, nM, nD, nL, iL, iT, iE, iN, iC]
    refine lintTold _ _ _ _ s O L O (by omega) oa i (by omega) (by omega) _ ?_
    try simp only [pm, pmW, pmB, ft, ↓reduceIte, reduceCtorEq, nE, nA, nM, nD, nL, iL, iT, iE, iN, iC]
    exact finK_rf k
  · rw [kindT, if_neg (by decide), if_neg (by decide), if_pos rfl] at k
    generalize openT (cls (cutS X s)) = O at *
    generalize (wkT (cls (cutS X s))).ls = L at *
    try simp only [c20, r20_0, r20_1, r20_2, r20_3, r20_4, r20_5, r20_6, r20_7, r20_8, r20_9, r20_10, r20_11, r20_12, r20_13, r20_14, r20_15, r20_16, r20_17, r20_18, partV, old_textV, hp2, hc2, pm, pmW, pmB, ft, ↓reduceIte, reduceCtorEq, nE, nA, nM, nD, nL, iL, iT, iE, iN, iC]
    refine lintTold _ _ _ _ s O L L (by omega) la i (by omega) (by omega) _ ?_
    try simp only [pm, pmW, pmB, ft, ↓reduceIte, reduceCtorEq, nE, nA, nM, nD, nL, iL, iT, iE, iN, iC]
    exact finK_rf k
  · rw [kindT, if_neg (by decide), if_neg (by decide), if_neg (by decide), if_pos rfl] at k
    try simp only [c20, r20_0, r20_1, r20_2, r20_3, r20_4, r20_5, r20_6, r20_7, r20_8, r20_9, r20_10, r20_11, r20_12, r20_13, r20_14, r20_15, r20_16, r20_17, r20_18, partV, textV, hp2, hc2, hiX, hx, pm, pmW, pmB, ft, ↓reduceIte, reduceCtorEq, nE, nA, nM, nD, nL, iL, iT, iE, iN, iC]
    refine Presented _ _ ?_
    try simp only [pm, pmW, pmB, ft, ↓reduceIte, reduceCtorEq, nE, nA, nM, nD, nL, iL, iT, iE, iN, iC]
    exact finK_rf k
  · rw [kindT, if_neg (by decide), if_neg (by decide), if_neg (by decide), if_neg (by decide), if_pos rfl] at k
    generalize openT (cls (cutS X s)) = O at *
    generalize (wkT (cls (cutS X s))).ls = L at *
    try simp only [c20, r20_0, r20_1, r20_2, r20_3, r20_4, r20_5, r20_6, r20_7, r20_8, r20_9, r20_10, r20_11, r20_12, r20_13, r20_14, r20_15, r20_16, r20_17, r20_18, partV, old_textV, hp2, hc2, pm, pmW, pmB, ft, ↓reduceIte, reduceCtorEq, nE, nA, nM, nD, nL, iL, iT, iE, iN, iC]
    refine lintBare _ _ _ p hp hp2 c hc2 X hl s O L i hiX (by omega) _ ?_
    try simp only [pm, pmW, pmB, ft, ↓reduceIte, reduceCtorEq, nE, nA, nM, nD, nL, iL, iT, iE, iN, iC]
    exact finK_rf k
  · rw [kindT, if_neg (by decide), if_neg (by decide), if_neg (by decide), if_neg (by decide), if_neg (by decide), if_pos rfl] at k
    try simp only [c20, r20_0, r20_1, r20_2, r20_3, r20_4, r20_5, r20_6, r20_7, r20_8, r20_9, r20_10, r20_11, r20_12, r20_13, r20_14, r20_15, r20_16, r20_17, r20_18, partV, old_textV, hp2, hc2, pm, pmW, pmB, ft, ↓reduceIte, reduceCtorEq, nE, nA, nM, nD, nL, iL, iT, iE, iN, iC]
    refine lintBehind _ p hp2 c q hc hc2 X hl i hiX _ ?_
    try simp only [pm, pmW, pmB, ft, ↓reduceIte, reduceCtorEq, nE, nA, nM, nD, nL, iL, iT, iE, iN, iC]
    exact finK_rf k
  · rw [kindT, if_neg (by decide), if_neg (by decide), if_neg (by decide), if_neg (by decide), if_neg (by decide), if_neg (by decide), if_pos rfl] at k
    try simp only [c20, r20_0, r20_1, r20_2, r20_3, r20_4, r20_5, r20_6, r20_7, r20_8, r20_9, r20_10, r20_11, r20_12, r20_13, r20_14, r20_15, r20_16, r20_17, r20_18, partV, old_textV, hp2, hc2, pm, pmW, pmB, ft, ↓reduceIte, reduceCtorEq, nE, nA, nM, nD, nL, iL, iT, iE, iN, iC]
    refine lintMixed _ p hp hp2 c hc2 X hl i hiX _ ?_
    try simp only [pm, pmW, pmB, ft, ↓reduceIte, reduceCtorEq, nE, nA, nM, nD, nL, iL, iT, iE, iN, iC]
    exact finK_rf k
  · rw [kindT, if_neg (by decide), if_neg (by decide), if_neg (by decide), if_neg (by decide), if_neg (by decide), if_neg (by decide), if_neg (by decide), if_pos rfl] at k
    try simp only [c20, r20_0, r20_1, r20_2, r20_3, r20_4, r20_5, r20_6, r20_7, r20_8, r20_9, r20_10, r20_11, r20_12, r20_13, r20_14, r20_15, r20_16, r20_17, r20_18, partV, textV, hp2, hc2, pm, pmW, pmB, ft, ↓reduceIte, reduceCtorEq, nE, nA, nM, nD, nL, iL, iT, iE, iN, iC]
    refine lintRow _ X (by omega) i hiX _ ?_
    try simp only [pm, pmW, pmB, ft, ↓reduceIte, reduceCtorEq, nE, nA, nM, nD, nL, iL, iT, iE, iN, iC]
    exact finK_rf k
theorem fpl_step (q : Int → Int) (X : List Int) (s : Int × Int) (i n : Nat) : fpl q X s i (n + 1) = if kindT q X s ((n + 1 : Nat) : Int) i then fpl q X s i n ++ [((i : Int), ((n + 1 : Nat) : Int))] else fpl q X s i n := by
  unfold fpl
  rw [kls]
  split <;> simp
theorem fpl_len (q : Int → Int) (X : List Int) (s : Int × Int) (i n : Nat) : (fpl q X s i n).length ≤ n := by
  rw [fpl, List.length_map]; exact kls_len q X s i n
theorem acc_sp {h h' : Heap} {v : PV} {A : List (Int × Int)} {a b : Int} (x : Acc h h' v 2 (A.length + 1) (A.flatMap sp ++ [.int .i64 a, .int .i64 b])) : Acc h h' v 2 (A ++ [(a, b)]).length ((A ++ [(a, b)]).flatMap sp) := by
  have e : (A ++ [(a, b)]).flatMap sp = A.flatMap sp ++ [.int .i64 a, .int .i64 b] := by rw [List.flatMap_append]; rfl
  rw [e, List.length_append]; exact x
theorem finds_bound (q : Int → Int) (X : List Int) : ∀ L : List (Int × Int), (∀ s ∈ L, s.2 ≤ (X.length : Int)) → (L.flatMap fun s => fpt q X s (s.2.toNat - s.1.toNat)).length ≤ L.length * (8 * X.length)
  | [], _ => by simp
  | s :: L, h => by
    have ih := finds_bound q X L fun s hs => h s (by simp [hs])
    have a := fpt_len q X s (s.2.toNat - s.1.toNat)
    have b := h s (by simp)
    rw [List.flatMap_cons, List.length_append, List.length_cons, Nat.add_mul]
    omega
theorem lintCheck (p : PV) (hp : PR p) (c : PV) (q : Int → Int) (hc : CO c q) (fr : Bool) (X : List Int) (hl : X.length ≤ 1000) (h : Heap) {K : PV → Heap → Prop}
    (k : K (.list true 2 (findsT q X).length ((findsT q X).flatMap sp)) h) :
    CanP Tryz.prog 7 [p, c, .list fr 1 X.length (X.map (.int .i64))] h K := by
  refine e7 rfl ?_
  have hp' := hp.old
  have hc' := hc.old
  have ho2 : p.old.old = p.old := hp.old2
  have hc2 : c.old.old = c.old := hc.old2
  have hpf : Pm.flat p.old = some [p.old] := by obtain ⟨a1, a2, a3, a4, a5, a6, a7, e, _⟩ := hp'; rw [e]; rfl
  have hcf : Pm.flat c.old = some [c.old] := hc'.flat
  try simp only [c7, r7_0, r7_1, r7_2, r7_3, r7_4, r7_5, r7_6, r7_7, r7_8, r7_9, r7_10, r7_11, r7_12, r7_13, r7_14, r7_15, r7_16, ho2, hc2, hpf, hcf, pm, pmW, pmB, ft, ↓reduceIte, reduceCtorEq, nE, nA, nM, nD, nL, iL, iT, iE, iN, iC]
  generalize p.old = p2 at *
  generalize c.old = c2 at *
  refine paraSplit _ hp' _ X (by omega) _ ?_
  have hin := split_in X
  have hpl := splitT_len X
  rw [findsT] at k
  generalize splitT X = L at *
  try simp only [old_sp, pm, pmW, pmB, ft, ↓reduceIte, reduceCtorEq, nE, nA, nM, nD, nL, iL, iT, iE, iN, iC]
  refine pwp_up L.length (fun i σ h' => Acc h h' (σ 8) 2 ((L.take i).flatMap fun s => fpt q X s (s.2.toNat - s.1.toNat)).length (((L.take i).flatMap fun s => fpt q X s (s.2.toNat - s.1.toNat)).flatMap sp) ∧ h.le h' ∧ (∃ f, σ 7 = textV f p2 c2 X) ∧ (∃ f, σ 21 = .list f 2 L.length (L.flatMap sp)) ∧ σ 22 = .int .i64 L.length ∧ σ 23 = .int .i64 i) ?_ ?_
  · exact ⟨Acc.nil _ _ _, Heap.le_refl _, ⟨_, by simp [put]; rfl⟩, ⟨_, by simp [put]; rfl⟩, by simp [put], by simp [put]⟩
  rintro i σ h' K' hi ⟨a, lh, ⟨f7, s7⟩, ⟨f21, s21⟩, s22, s23⟩ next
  rcases Nat.lt_or_ge i L.length with hlt | hge
  · have hw : IntKind.i64.wrap ((i : Int) + 1) = (i : Int) + 1 := wrap_in (by omega) (by omega)
    have hat := flat_at sp 2 sp_len L hlt
    have hx2 : i * 2 + 2 ≤ (L.flatMap sp).length := by rw [flat_length sp 2 sp_len]; omega
    have hq := hin _ (get_mem L hlt)
    have hf := take_succ_flat (fun s => fpt q X s (s.2.toNat - s.1.toNat)) L hlt
    have fb := finds_bound q X (L.take i) fun s hs => (hin s (List.mem_of_mem_take hs)).2.2
    have fb2 : (L.take i).length * (8 * X.length) ≤ 1000 * (8 * 1000) := Nat.mul_le_mul (by simp; omega) (by omega)
    generalize L.getD i default = s at *
    rw [show sp s = [.int .i64 s.1, .int .i64 s.2] from rfl] at hat
    try simp only [s7, s21, s22, s23, hlt, hx2, hat, pm, pmW, pmB, ft, ↓reduceIte, reduceCtorEq, nE, nA, nM, nD, nL, iL, iT, iE, iN, iC]
    intro b hb
    rw [Heap.kill_none hb]
    try simp only [s7, pm, pmW, pmB, ft, ↓reduceIte, reduceCtorEq, nE, nA, nM, nD, nL, iL, iT, iE, iN, iC]
    refine lintPart _ p2 hp' ho2 c2 hcf hc2 X hl s hq _ ?_
    try simp only [pm, pmW, pmB, ft, ↓reduceIte, reduceCtorEq, nE, nA, nM, nD, nL, iL, iT, iE, iN, iC]
    generalize (L.take i).flatMap (fun s => fpt q X s (s.2.toNat - s.1.toNat)) = A at *
    obtain ⟨lo, elo⟩ : ∃ lo : Nat, s.1 = lo := ⟨s.1.toNat, by omega⟩
    obtain ⟨m, em⟩ : ∃ m : Nat, s.2 = ((lo + m : Nat) : Int) := ⟨(s.2 - s.1).toNat, by omega⟩
    have hlo : s.1.toNat = lo := by omega
    have hmm : s.2.toNat - s.1.toNat = m := by omega
    rw [hmm] at hf
    generalize hO : openT (cls (cutS X s)) = O at *
    generalize hLL : (wkT (cls (cutS X s))).ls = LL at *
    refine pwp_up m (fun j σ' h9 => Acc h h9 (σ' 8) 2 (A ++ fpt q X s j).length ((A ++ fpt q X s j).flatMap sp) ∧ h.le h9 ∧ σ' 7 = σ 7 ∧ σ' 21 = σ 21 ∧ σ' 22 = σ 22 ∧ σ' 23 = σ 23 ∧ (∃ f, σ' 10 = .fptr f [.int .i64 s.1, .int .i64 s.2] 0) ∧ (∃ f g, σ' 11 = partV f g (textV false p2 c2 X) s O LL) ∧ σ' 12 = .int .i64 ((lo + j : Nat) : Int)) ?_ ?_
    · rw [fpt, List.append_nil]
      exact ⟨by simpa [put] using a, lh, by simp [put], by simp [put], by simp [put], by simp [put], ⟨_, by simp [put]; rfl⟩, ⟨_, _, by simp [put]; rfl⟩, by simp [put, elo]⟩
    rintro j σ9 h9 K9 hj ⟨a9, l9, z7, z21, z22, z23, ⟨f10, z10⟩, ⟨f11, g11, z11⟩, z12⟩ next9
    have fl9 := fpt_len q X s j
    rcases Nat.lt_or_ge j m with hjl | hjg
    · have hlt9 : ((lo + j : Nat) : Int) < s.2 := by rw [em]; omega
      have hw9 : IntKind.i64.wrap (((lo + j : Nat) : Int) + 1) = ((lo + (j + 1) : Nat) : Int) := by rw [wrap_in (by omega) (by omega)]; omega
      try simp only [z10, z11, z12, hlt9, pm, pmW, pmB, ft, ↓reduceIte, reduceCtorEq, nE, nA, nM, nD, nL, iL, iT, iE, iN, iC]
      refine pwp_up 8 (fun n σ' h8 => Acc h h8 (σ' 8) 2 (A ++ fpt q X s j ++ fpl q X s (lo + j) n).length ((A ++ fpt q X s j ++ fpl q X s (lo + j) n).flatMap sp) ∧ h.le h8 ∧ σ' 7 = σ9 7 ∧ σ' 21 = σ9 21 ∧ σ' 22 = σ9 22 ∧ σ' 23 = σ9 23 ∧ σ' 10 = σ9 10 ∧ σ' 11 = σ9 11 ∧ σ' 12 = σ9 12 ∧ σ' 13 = .int .i64 ((n + 1 : Nat) : Int)) ?_ ?_
      · rw [show fpl q X s (lo + j) 0 = [] from rfl, List.append_nil]
        exact ⟨by simpa [put] using a9, l9, by simp [put], by simp [put], by simp [put], by simp [put], by simp [put], by simp [put], by simp [put], by simp [put]⟩
      rintro n σ8 h8 K8 hn ⟨a8, l8, y7, y21, y22, y23, y10, y11, y12, y13⟩ next8
      have fl8 := fpl_len q X s (lo + j) n
      rcases Nat.lt_or_ge n 8 with hnl | hng
      · have hle8 : ((n + 1 : Nat) : Int) ≤ 8 := by omega
        have hw8 : IntKind.i64.wrap (((n + 1 : Nat) : Int) + 1) = ((n + 1 + 1 : Nat) : Int) := by rw [wrap_in (by omega) (by omega)]; omega
        have hst := fpl_step q X s (lo + j) n
        try simp only [y11, z11, y12, z12, y13, hle8, pm, pmW, pmB, ft, ↓reduceIte, reduceCtorEq, nE, nA, nM, nD, nL, iL, iT, iE, iN, iC]
        rw [← hO, ← hLL]
        refine lintIs _ _ _ p2 hp' ho2 c2 q hc' hc2 X hl s hq (lo + j) (by omega) ((n + 1 : Nat) : Int) (by omega) _ ?_
        rw [hO, hLL]
        cases hk : kindT q X s ((n + 1 : Nat) : Int) (lo + j)
        · rw [hk, if_neg (by simp)] at hst
          try simp only [y13, hw8, pm, pmW, pmB, ft, ↓reduceIte, reduceCtorEq, nE, nA, nM, nD, nL, iL, iT, iE, iN, iC]
          refine next8 hnl _ _ ?_
          rw [hst]
          exact ⟨by simpa [put] using a8, l8, by simp [put, y7], by simp [put, y21], by simp [put, y22], by simp [put, y23], by simp [put, y10], by simp [put, y11], by simp [put, y12], by simp [put]⟩
        · rw [hk, if_pos rfl] at hst
          have hB : (A ++ fpt q X s j ++ fpl q X s (lo + j) n).length ≤ 10000000 := by simp only [List.length_append]; omega
          try simp only [y12, z12, y13, pm, pmW, pmB, ft, ↓reduceIte, reduceCtorEq, nE, nA, nM, nD, nL, iL, iT, iE, iN, iC]
          refine a8.app l8 (by decide) rfl (by omega) (by simp only [maxLen]; omega) fun v5 h5 a5 l5 sd5 => ?_
          have a5' := acc_sp a5
          try simp only [y13, hw8, pm, pmW, pmB, ft, ↓reduceIte, reduceCtorEq, nE, nA, nM, nD, nL, iL, iT, iE, iN, iC]
          refine next8 hnl _ _ ?_
          rw [hst, ← List.append_assoc]
          exact ⟨by simpa [put] using a5', l5, by simp [put, y7], by simp [put, y21], by simp [put, y22], by simp [put, y23], by simp [put, y10], by simp [put, y11], by simp [put, y12], by simp [put]⟩
      · have e : n = 8 := by omega
        subst e
        have hfp : fpt q X s (j + 1) = fpt q X s j ++ fpl q X s (lo + j) 8 := by rw [fpt, hlo]
        try simp only [y13, y12, z12, hw9, pm, pmW, pmB, ft, ↓reduceIte, reduceCtorEq, nE, nA, nM, nD, nL, iL, iT, iE, iN, iC]
        refine next9 hjl _ _ ?_
        rw [hfp, ← List.append_assoc]
        exact ⟨by simpa [put] using a8, l8, by simp [put, y7, z7], by simp [put, y21, z21], by simp [put, y22, z22], by simp [put, y23, z23], ⟨f10, by simp [put, y10, z10]⟩, ⟨f11, g11, by simp [put, y11, z11]⟩, by simp [put]⟩
    · have e : j = m := by omega
      subst e
      have hlt9 : ¬ ((lo + j : Nat) : Int) < s.2 := by rw [em]; omega
      try simp only [z10, z12, hlt9, z23, s23, hw, pm, pmW, pmB, ft, ↓reduceIte, reduceCtorEq, nE, nA, nM, nD, nL, iL, iT, iE, iN, iC]
      refine next hlt _ _ ?_
      rw [hf]
      exact ⟨by simpa [put] using a9, l9, ⟨f7, by simp [put, z7, s7]⟩, ⟨f21, by simp [put, z21, s21]⟩, by simp [put, z22, s22], by simp [put]⟩
  · have e : i = L.length := by omega
    subst e
    have hnl := Nat.lt_irrefl L.length
    try simp only [s22, s23, hnl, pm, pmW, pmB, ft, ↓reduceIte, reduceCtorEq, nE, nA, nM, nD, nL, iL, iT, iE, iN, iC]
    rw [List.take_length] at a
    refine a.fin lh ?_
    rw [old_sp]; exact k
end Go.Proofs.YtcgaphmndnmfdaaGreat
