/-
  Paragraphs: the package para (Split), and the document's answer.
  Conditions: none but those that each sentence tells.
-/
import Derived.Test.YtcgaphmndnmfdaaGreatRef07
import Derived.Test.YtcgaphmndnmfdaaGreatSpan1
import Derived.Test.YtcgaphmndnmfdaaGreatIntsEq
namespace Go.Proofs.YtcgaphmndnmfdaaGreat
open Go.Pm
open Nat renaming reduceEqDiff → nE, reduceAdd → nA, reduceMul → nM, reduceLeDiff → nD, reduceLT → nL
open Int renaming reduceLE → iL, reduceLT → iT, reduceEq → iE, reduceToNat → iN, cast_ofNat_Int → iC
set_option maxRecDepth 100000
set_option linter.unusedSimpArgs false
set_option linter.unusedVariables false

/-- Does a paragraph end behind a place? -/
def brkT (X : List Int) (i : Nat) : Bool := decide (classT (X.getD i default) = 10) && !(decide (X.getD i default = 13) && (decide (i + 1 < X.length) && decide (X.getD (i + 1) default = 10)))
def spl (X : List Int) : Nat → List (Int × Int) × Int
  | 0 => ([], 0)
  | i + 1 => if brkT X i then ((spl X i).1 ++ [((spl X i).2, ((i + 1 : Nat) : Int))], ((i + 1 : Nat) : Int)) else spl X i
theorem spl_in (X : List Int) : ∀ i, (spl X i).1.length ≤ i ∧ 0 ≤ (spl X i).2 ∧ (spl X i).2 ≤ i
  | 0 => by simp [spl]
  | i + 1 => by
    have := spl_in X i
    unfold spl
    split
    · simp; omega
    · omega
def splitT (X : List Int) : List (Int × Int) := (spl X X.length).1 ++ (if (spl X X.length).2 < X.length then [((spl X X.length).2, (X.length : Int))] else [])
theorem splitT_len (X : List Int) : (splitT X).length ≤ X.length := by
  have := spl_in X X.length
  unfold splitT
  split
  · rename_i h
    have h2 : ∀ i, (spl X i).1.length ≤ (spl X i).2 := fun i => by
      induction i with
      | zero => simp [spl]
      | succ i ih =>
        have := spl_in X i
        unfold spl; split
        · simp; omega
        · exact ih
    have := h2 X.length
    simp; omega
  · simp; omega
/-- What is taken for a break ahead of a feed. -/
theorem both_eq (X : List Int) (i : Nat) : (decide (X.getD i default = 13) && (decide (i + 1 < X.length) && decide (X.getD (i + 1) default = 10))) = (if X.getD i default = 13 then (if i + 1 < X.length then decide (X.getD (i + 1) default = 10) else false) else false) := by
  by_cases h1 : X.getD i default = 13 <;> by_cases h2 : i + 1 < X.length <;> simp [h1, h2]
def hiO (lo : Int) (i : Nat) : Int := if lo = i then 0 else i
theorem paraSplit (p : PV) (hp : PR p) (fr : Bool) (X : List Int) (hl : X.length ≤ 1000000) (h : Heap) {K : PV → Heap → Prop} (k : K (.list true 2 (splitT X).length ((splitT X).flatMap sp)) h) : CanP Tryz.prog 18 [p, .list fr 1 X.length (X.map (.int .i64))] h K := by
  refine e18 rfl ?_
  have hp' := hp.old
  try simp only [c18, r18_0, r18_1, r18_2, r18_3, r18_4, r18_5, r18_6, r18_7, r18_8, r18_9, r18_10, r18_11, r18_12, r18_13, r18_14, pm, pmW, pmB, ft, ↓reduceIte, reduceCtorEq, nE, nA, nM, nD, nL, iL, iT, iE, iN, iC]
  generalize p.old = p2 at *
  intro b hb
  try simp only [pm, pmW, pmB, ft, ↓reduceIte, reduceCtorEq, nE, nA, nM, nD, nL, iL, iT, iE, iN, iC]
  refine pwp_up X.length (fun i σ h' => h'.f b = some [.int .i64 (spl X i).2, .int .i64 (hiO (spl X i).2 i)] ∧ Acc h h' (σ 5) 2 (spl X i).1.length ((spl X i).1.flatMap sp) ∧ blkOf (σ 5) ≠ some b ∧ h.le h' ∧ σ 0 = p2 ∧ σ 1 = .list false 1 X.length (X.map (.int .i64)) ∧ σ 6 = .ptr b 0 ∧ σ 11 = .list false 1 X.length (X.map (.int .i64)) ∧ σ 12 = .int .i64 X.length ∧ σ 13 = .int .i64 i) ?_ ?_
  · exact ⟨Heap.set_same _ _ _, Acc.nil _ _ _, (fun e => by cases e), Heap.le_set (Heap.le_refl _) hb, rfl, rfl, rfl, rfl, rfl, rfl⟩
  · rintro i σ h' K' hi ⟨hO, hA, hne, lh, s0, s1, s6, s11, s12, s13⟩ next
    try simp only [s11, s12, s13, cdK_dec, pm, pmW, pmB, ft, ↓reduceIte, reduceCtorEq, nE, nA, nM, nD, nL, iL, iT, iE, iN, iC]
    refine ⟨fun hlt => ?_, fun hge => ?_⟩
    · have hx := getm (.int .i64) X hlt
      obtain ⟨m1, m2, m3⟩ := spl_in X i
      have hy : i + 1 < X.length → (X.map (PV.int .i64))[i + 1]? = some (.int .i64 (X.getD (i + 1) default)) := fun q => getm (.int .i64) X q
      have hm : spl X (i + 1) = if brkT X i then ((spl X i).1 ++ [((spl X i).2, ((i + 1 : Nat) : Int))], ((i + 1 : Nat) : Int)) else spl X i := rfl
      unfold brkT at hm
      rw [both_eq X i] at hm
      generalize spl X (i + 1) = M at *
      generalize spl X i = M0 at *
      obtain ⟨A, lo⟩ := M0
      simp only at hO hA m1 m2 m3 hm
      generalize X.getD i default = c at *
      generalize X.getD (i + 1) default = d at *
      have hw : IntKind.i64.wrap ((i : Int) + 1) = ((i + 1 : Nat) : Int) := by rw [wrap_in (by omega) (by omega)]; omega
      have nsucc : (((i + 1 : Nat) : Int) < X.length) = (i + 1 < X.length) := propext ⟨fun q => by omega, fun q => by omega⟩
      have tn : (((i + 1 : Nat) : Int)).toNat = i + 1 := by omega
      have n0 : (0 : Int) ≤ ((i + 1 : Nat) : Int) := by omega
      have keep : ∀ (σ' : Sl) (M' : List (Int × Int) × Int), M = (A, lo) → σ' 0 = p2 → σ' 1 = .list false 1 X.length (X.map (.int .i64)) → σ' 5 = σ 5 → σ' 6 = .ptr b 0 → σ' 11 = .list false 1 X.length (X.map (.int .i64)) → σ' 12 = .int .i64 X.length → σ' 13 = .int .i64 ((i + 1 : Nat) : Int) → K' σ' (h'.set b [.int .i64 lo, .int .i64 ((i + 1 : Nat) : Int)]) := fun σ' M' e t0 t1 t5 t6 t11 t12 t13 => by
        refine next hlt σ' _ ⟨?_, ?_, by rw [t5]; exact hne, Heap.le_set lh hb, t0, t1, t6, t11, t12, t13⟩
        · rw [e, Heap.set_same, hiO, if_neg (by simp only; omega)]
        · rw [e, t5]; exact hA.set hne
      try simp only [s1, s6, s11, s13, hx, hlt, hO, hw, pm, pmW, pmB, ft, ↓reduceIte, reduceCtorEq, nE, nA, nM, nD, nL, iL, iT, iE, iN, iC]
      have hA2 := fun ds => hA.set (x := b) (ds := ds) hne
      have lh2 := fun (ds : List PV) => Heap.le_set (cs := ds) lh hb
      have hcase : (c = 13 ∧ i + 1 < X.length ∧ d = 10) ∨ (c = 13 ∧ i + 1 < X.length ∧ ¬ d = 10) ∨ (c = 13 ∧ ¬ i + 1 < X.length) ∨ ¬ c = 13 := by omega
      rcases hcase with ⟨h13, h2, hd⟩ | hcase
      · have hy2 := hy h2
        try simp only [h13, s0, s1, hw, nsucc, tn, n0, h2, hy2, hd, pm, pmW, pmB, ft, ↓reduceIte, reduceCtorEq, nE, nA, nM, nD, nL, iL, iT, iE, iN, iC]
        refine Class _ hp' _ _ ?_
        rw [h13, if_pos rfl, if_pos h2, decide_eq_true hd, Bool.not_true, Bool.and_false, if_neg (by simp)] at hm
        by_cases h10 : classT 13 = 10
        · try simp only [h10, s13, hw, pm, pmW, pmB, ft, ↓reduceIte, reduceCtorEq, nE, nA, nM, nD, nL, iL, iT, iE, iN, iC]
          exact keep _ M hm (by simp [put, s0]) (by simp [put, s1]) (by simp [put]) (by simp [put, s6]) (by simp [put, s11]) (by simp [put, s12]) (by simp [put])
        · try simp only [h10, s13, hw, pm, pmW, pmB, ft, ↓reduceIte, reduceCtorEq, nE, nA, nM, nD, nL, iL, iT, iE, iN, iC]
          exact keep _ M hm (by simp [put, s0]) (by simp [put, s1]) (by simp [put]) (by simp [put, s6]) (by simp [put, s11]) (by simp [put, s12]) (by simp [put])
      · have hbb : (if c = 13 then (if i + 1 < X.length then decide (d = 10) else false) else false) = false := by
          rcases hcase with ⟨h13, h2, hd⟩ | ⟨h13, h2⟩ | h13
          · rw [if_pos h13, if_pos h2, decide_eq_false hd]
          · rw [if_pos h13, if_neg h2]
          · rw [if_neg h13]
        rw [hbb, Bool.not_false, Bool.and_true] at hm
        rcases hcase with ⟨h13, h2, hd⟩ | ⟨h13, h2⟩ | h13
        · have hy2 := hy h2
          try simp only [h13, s0, s1, hw, nsucc, tn, n0, h2, hy2, hd, pm, pmW, pmB, ft, ↓reduceIte, reduceCtorEq, nE, nA, nM, nD, nL, iL, iT, iE, iN, iC]
          refine Class _ hp' _ _ ?_
          rw [h13] at hm
          by_cases h10 : classT 13 = 10
          · rw [if_pos (by simp [h10])] at hm
            try simp only [h10, s6, s13, hw, pm, pmW, pmB, ft, ↓reduceIte, reduceCtorEq, nE, nA, nM, nD, nL, iL, iT, iE, iN, iC]
            refine (hA2 _).app (lh2 _) (by decide) rfl (by omega) (by simp only [maxLen]; omega) fun v' h3 a' l' sd => ?_
            have z := sd b _ (Heap.set_same _ _ _) hne
            have z1 := z.1
            try simp only [z1, s6, s13, hw, pm, pmW, pmB, ft, ↓reduceIte, reduceCtorEq, nE, nA, nM, nD, nL, iL, iT, iE, iN, iC]
            refine next hlt _ _ ⟨?_, ?_, by simpa [put] using z.2, Heap.le_set l' hb, by simp [put, s0], by simp [put, s1], by simp [put, s6], by simp [put, s11], by simp [put, s12], by simp [put]⟩
            · rw [hm, Heap.set_same, hiO, if_pos rfl]
            · rw [hm]
              simpa [put, sp] using a'.set (x := b) z.2
          · rw [if_neg (by simp [h10])] at hm
            try simp only [h10, s13, hw, pm, pmW, pmB, ft, ↓reduceIte, reduceCtorEq, nE, nA, nM, nD, nL, iL, iT, iE, iN, iC]
            exact keep _ M hm (by simp [put, s0]) (by simp [put, s1]) (by simp [put]) (by simp [put, s6]) (by simp [put, s11]) (by simp [put, s12]) (by simp [put])
        · try simp only [h13, s0, s1, hw, nsucc, tn, n0, h2, pm, pmW, pmB, ft, ↓reduceIte, reduceCtorEq, nE, nA, nM, nD, nL, iL, iT, iE, iN, iC]
          refine Class _ hp' _ _ ?_
          rw [h13] at hm
          by_cases h10 : classT 13 = 10
          · rw [if_pos (by simp [h10])] at hm
            try simp only [h10, s6, s13, hw, pm, pmW, pmB, ft, ↓reduceIte, reduceCtorEq, nE, nA, nM, nD, nL, iL, iT, iE, iN, iC]
            refine (hA2 _).app (lh2 _) (by decide) rfl (by omega) (by simp only [maxLen]; omega) fun v' h3 a' l' sd => ?_
            have z := sd b _ (Heap.set_same _ _ _) hne
            have z1 := z.1
            try simp only [z1, s6, s13, hw, pm, pmW, pmB, ft, ↓reduceIte, reduceCtorEq, nE, nA, nM, nD, nL, iL, iT, iE, iN, iC]
            refine next hlt _ _ ⟨?_, ?_, by simpa [put] using z.2, Heap.le_set l' hb, by simp [put, s0], by simp [put, s1], by simp [put, s6], by simp [put, s11], by simp [put, s12], by simp [put]⟩
            · rw [hm, Heap.set_same, hiO, if_pos rfl]
            · rw [hm]
              simpa [put, sp] using a'.set (x := b) z.2
          · rw [if_neg (by simp [h10])] at hm
            try simp only [h10, s13, hw, pm, pmW, pmB, ft, ↓reduceIte, reduceCtorEq, nE, nA, nM, nD, nL, iL, iT, iE, iN, iC]
            exact keep _ M hm (by simp [put, s0]) (by simp [put, s1]) (by simp [put]) (by simp [put, s6]) (by simp [put, s11]) (by simp [put, s12]) (by simp [put])
        · try simp only [h13, s0, s1, hw, nsucc, tn, n0, pm, pmW, pmB, ft, ↓reduceIte, reduceCtorEq, nE, nA, nM, nD, nL, iL, iT, iE, iN, iC]
          refine Class _ hp' _ _ ?_
          by_cases h10 : classT c = 10
          · rw [if_pos (by simp [h10])] at hm
            try simp only [h10, s6, s13, hw, pm, pmW, pmB, ft, ↓reduceIte, reduceCtorEq, nE, nA, nM, nD, nL, iL, iT, iE, iN, iC]
            refine (hA2 _).app (lh2 _) (by decide) rfl (by omega) (by simp only [maxLen]; omega) fun v' h3 a' l' sd => ?_
            have z := sd b _ (Heap.set_same _ _ _) hne
            have z1 := z.1
            try simp only [z1, s6, s13, hw, pm, pmW, pmB, ft, ↓reduceIte, reduceCtorEq, nE, nA, nM, nD, nL, iL, iT, iE, iN, iC]
            refine next hlt _ _ ⟨?_, ?_, by simpa [put] using z.2, Heap.le_set l' hb, by simp [put, s0], by simp [put, s1], by simp [put, s6], by simp [put, s11], by simp [put, s12], by simp [put]⟩
            · rw [hm, Heap.set_same, hiO, if_pos rfl]
            · rw [hm]
              simpa [put, sp] using a'.set (x := b) z.2
          · rw [if_neg (by simp [h10])] at hm
            try simp only [h10, s13, hw, pm, pmW, pmB, ft, ↓reduceIte, reduceCtorEq, nE, nA, nM, nD, nL, iL, iT, iE, iN, iC]
            exact keep _ M hm (by simp [put, s0]) (by simp [put, s1]) (by simp [put]) (by simp [put, s6]) (by simp [put, s11]) (by simp [put, s12]) (by simp [put])
    · have hil : i = X.length := by omega
      subst hil
      obtain ⟨m1, m2, m3⟩ := spl_in X X.length
      have hlen := splitT_len X
      unfold splitT at k
      generalize spl X X.length = M at *
      obtain ⟨A, lo⟩ := M
      simp only at hO hA m1 m2 m3 k
      by_cases hlo : lo = X.length
      · rw [hiO, if_pos hlo] at hO
        rw [if_neg (by omega), List.append_nil] at k
        have hq : ¬ lo < 0 := by omega
        try simp only [s6, hO, hq, pm, pmW, pmB, ft, ↓reduceIte, reduceCtorEq, nE, nA, nM, nD, nL, iL, iT, iE, iN, iC]
        exact hA.fin lh (by rw [old_sp]; exact k)
      · rw [hiO, if_neg hlo] at hO
        have hq : lo < X.length := by omega
        rw [if_pos hq] at k
        try simp only [s6, hO, hq, pm, pmW, pmB, ft, ↓reduceIte, reduceCtorEq, nE, nA, nM, nD, nL, iL, iT, iE, iN, iC]
        refine hA.app lh (by decide) rfl (by omega) (by simp only [maxLen]; omega) fun v' h3 a' l' sd => ?_
        try simp only [pm, pmW, pmB, ft, ↓reduceIte, reduceCtorEq, nE, nA, nM, nD, nL, iL, iT, iE, iN, iC]
        refine a'.fin l' ?_
        have e : A.flatMap sp ++ [.int .i64 lo, .int .i64 X.length] = (A ++ [(lo, (X.length : Int))]).flatMap sp := by simp [sp]
        rw [e, old_sp]
        simpa using k
/-- The document's answer, step by step. -/
def rpl (X : List Int) : Nat → List (Int × Int) × Int
  | 0 => ([], 0)
  | i + 1 => if brkT X i || decide (i + 1 = X.length) then ((rpl X i).1 ++ [((rpl X i).2, ((i + 1 : Nat) : Int))], ((i + 1 : Nat) : Int)) else rpl X i
theorem rpl_spl (X : List Int) : ∀ i, i < X.length → rpl X i = spl X i
  | 0, _ => rfl
  | i + 1, h => by
    have ih := rpl_spl X i (by omega)
    unfold rpl spl
    rw [ih, show decide (i + 1 = X.length) = false from decide_eq_false (by omega), Bool.or_false]
theorem rpl_end (X : List Int) : (rpl X X.length).1 = splitT X := by
  cases hX : X with
  | nil => rfl
  | cons c l =>
    have e : X.length = l.length + 1 := by rw [hX]; rfl
    rw [← hX]
    unfold splitT
    rw [e]
    have r := rpl_spl X l.length (by omega)
    have b := spl_in X l.length
    rw [rpl, spl, r]
    simp only [show decide (l.length + 1 = X.length) = true from decide_eq_true e.symm, Bool.or_true, if_true]
    cases hb : brkT X l.length
    · simp only [Bool.false_eq_true, if_false]
      rw [if_pos (by omega)]
    · simp
theorem rpl_in (X : List Int) : ∀ i, (rpl X i).1.length ≤ i ∧ 0 ≤ (rpl X i).2 ∧ (rpl X i).2 ≤ i
  | 0 => by simp [rpl]
  | i + 1 => by
    have := rpl_in X i
    unfold rpl
    split
    · simp; omega
    · omega
theorem SplitR (fr : Bool) (X : List Int) (hl : X.length ≤ 1000000) (h : Heap) {K : PV → Heap → Prop} (k : K (.list true 2 (splitT X).length ((splitT X).flatMap sp)) h) : CanP Tryz.prog 25 [.list fr 1 X.length (X.map (.int .i64))] h K := by
  refine e25 rfl ?_
  try simp only [c25, r25_0, r25_1, r25_2, r25_3, r25_4, r25_5, r25_6, r25_7, r25_8, r25_9, r25_10, pm, pmW, pmB, ft, ↓reduceIte, reduceCtorEq, nE, nA, nM, nD, nL, iL, iT, iE, iN, iC]
  refine pwp_up X.length (fun i σ h' => Acc h h' (σ 3) 2 (rpl X i).1.length ((rpl X i).1.flatMap sp) ∧ h.le h' ∧ σ 0 = .list false 1 X.length (X.map (.int .i64)) ∧ σ 4 = .int .i64 (rpl X i).2 ∧ σ 5 = .int .i64 i) ?_ ?_
  · exact ⟨Acc.nil _ _ _, Heap.le_refl _, rfl, rfl, rfl⟩
  · rintro i σ h' K' hi ⟨hA, lh, s0, s4, s5⟩ next
    try simp only [s0, s5, cdK_dec, pm, pmW, pmB, ft, ↓reduceIte, reduceCtorEq, nE, nA, nM, nD, nL, iL, iT, iE, iN, iC]
    refine ⟨fun hlt => ?_, fun hge => ?_⟩
    · have hx := getm (.int .i64) X hlt
      obtain ⟨m1, m2, m3⟩ := rpl_in X i
      have hy : i + 1 < X.length → (X.map (PV.int .i64))[i + 1]? = some (.int .i64 (X.getD (i + 1) default)) := fun q => getm (.int .i64) X q
      have hm : rpl X (i + 1) = if brkT X i || decide (i + 1 = X.length) then ((rpl X i).1 ++ [((rpl X i).2, ((i + 1 : Nat) : Int))], ((i + 1 : Nat) : Int)) else rpl X i := rfl
      unfold brkT at hm
      rw [both_eq X i] at hm
      generalize rpl X (i + 1) = M at *
      generalize rpl X i = M0 at *
      obtain ⟨A, lo⟩ := M0
      simp only at hA m1 m2 m3 hm s4
      generalize X.getD i default = c at *
      generalize X.getD (i + 1) default = d at *
      have hw : IntKind.i64.wrap ((i : Int) + 1) = ((i + 1 : Nat) : Int) := by rw [wrap_in (by omega) (by omega)]; omega
      have nsucc : (((i + 1 : Nat) : Int) < X.length) = (i + 1 < X.length) := propext ⟨fun q => by omega, fun q => by omega⟩
      have neq : (((i + 1 : Nat) : Int) = X.length) = (i + 1 = X.length) := propext ⟨fun q => by omega, fun q => by omega⟩
      have tn : (((i + 1 : Nat) : Int)).toNat = i + 1 := by omega
      have n0 : (0 : Int) ≤ ((i + 1 : Nat) : Int) := by omega
      -- what comes behind the test
      have fin0 : M = (A, lo) → ∀ σ' : Sl, σ' 0 = .list false 1 X.length (X.map (.int .i64)) → σ' 3 = σ 3 → σ' 4 = .int .i64 lo → σ' 5 = .int .i64 ((i + 1 : Nat) : Int) → K' σ' h' := fun e σ' t0 t3 t4 t5 =>
        next hlt σ' h' ⟨by rw [e, t3]; exact hA, lh, t0, by rw [e]; exact t4, t5⟩
      have fin1 : M = (A ++ [(lo, ((i + 1 : Nat) : Int))], ((i + 1 : Nat) : Int)) → ∀ (σ' : Sl) (h3 : Heap), Acc h h3 (σ' 3) 2 (A.length + 1) (A.flatMap sp ++ [.int .i64 lo, .int .i64 ((i + 1 : Nat) : Int)]) → h.le h3 → σ' 0 = .list false 1 X.length (X.map (.int .i64)) → σ' 4 = .int .i64 ((i + 1 : Nat) : Int) → σ' 5 = .int .i64 ((i + 1 : Nat) : Int) → K' σ' h3 := fun e σ' h3 a l3 t0 t4 t5 =>
        next hlt σ' h3 ⟨by rw [e]; simpa [sp] using a, l3, t0, by rw [e]; exact t4, t5⟩
      by_cases h13 : c = 13
      · by_cases h2 : i + 1 < X.length
        · have hy2 := hy h2
          have h3 : ¬ i + 1 = X.length := by omega
          rw [h13, if_pos rfl, if_pos h2, decide_eq_false h3, Bool.or_false] at hm
          by_cases hd : d = 10
          · rw [decide_eq_true hd, Bool.not_true, Bool.and_false, if_neg (by simp)] at hm
            try simp only [s0, s5, hx, hlt, hw, h13, nsucc, neq, tn, n0, h2, hy2, hd, pm, pmW, pmB, ft, ↓reduceIte, reduceCtorEq, nE, nA, nM, nD, nL, iL, iT, iE, iN, iC]
            refine ClassR _ _ ?_
            by_cases h10 : classT 13 = 10
            · try simp only [s0, s5, h10, hw, neq, h3, pm, pmW, pmB, ft, ↓reduceIte, reduceCtorEq, nE, nA, nM, nD, nL, iL, iT, iE, iN, iC]
              exact fin0 hm _ (by simp [put, s0]) (by simp [put]) (by simp [put, s4]) (by simp [put])
            · try simp only [s0, s5, h10, hw, neq, h3, pm, pmW, pmB, ft, ↓reduceIte, reduceCtorEq, nE, nA, nM, nD, nL, iL, iT, iE, iN, iC]
              exact fin0 hm _ (by simp [put, s0]) (by simp [put]) (by simp [put, s4]) (by simp [put])
          · rw [decide_eq_false hd, Bool.not_false, Bool.and_true] at hm
            try simp only [s0, s5, hx, hlt, hw, h13, nsucc, neq, tn, n0, h2, hy2, hd, pm, pmW, pmB, ft, ↓reduceIte, reduceCtorEq, nE, nA, nM, nD, nL, iL, iT, iE, iN, iC]
            refine ClassR _ _ ?_
            by_cases h10 : classT 13 = 10
            · rw [if_pos (decide_eq_true h10)] at hm
              try simp only [s0, s4, s5, h10, hw, neq, h3, pm, pmW, pmB, ft, ↓reduceIte, reduceCtorEq, nE, nA, nM, nD, nL, iL, iT, iE, iN, iC]
              refine hA.app lh (by decide) rfl (by omega) (by simp only [maxLen]; omega) fun v' h3' a' l' sd => ?_
              try simp only [s5, hw, pm, pmW, pmB, ft, ↓reduceIte, reduceCtorEq, nE, nA, nM, nD, nL, iL, iT, iE, iN, iC]
              exact fin1 hm _ _ (by simpa [put] using a') l' (by simp [put, s0]) (by simp [put]) (by simp [put])
            · rw [if_neg (by simp [h10])] at hm
              try simp only [s0, s5, h10, hw, neq, h3, pm, pmW, pmB, ft, ↓reduceIte, reduceCtorEq, nE, nA, nM, nD, nL, iL, iT, iE, iN, iC]
              exact fin0 hm _ (by simp [put, s0]) (by simp [put]) (by simp [put, s4]) (by simp [put])
        · have h3 : i + 1 = X.length := by omega
          rw [decide_eq_true h3, Bool.or_true, if_pos rfl] at hm
          try simp only [s0, s5, hx, hlt, hw, h13, nsucc, neq, tn, n0, h2, pm, pmW, pmB, ft, ↓reduceIte, reduceCtorEq, nE, nA, nM, nD, nL, iL, iT, iE, iN, iC]
          refine ClassR _ _ ?_
          by_cases h10 : classT 13 = 10
          · try simp only [s0, s4, s5, h10, hw, neq, h3, pm, pmW, pmB, ft, ↓reduceIte, reduceCtorEq, nE, nA, nM, nD, nL, iL, iT, iE, iN, iC]
            rw [h3] at fin1 hm
            refine hA.app lh (by decide) rfl (by omega) (by simp only [maxLen]; omega) fun v' h3' a' l' sd => ?_
            try simp only [s5, hw, h3, pm, pmW, pmB, ft, ↓reduceIte, reduceCtorEq, nE, nA, nM, nD, nL, iL, iT, iE, iN, iC]
            exact fin1 hm _ _ (by simpa [put] using a') l' (by simp [put, s0]) (by simp [put]) (by simp [put])
          · try simp only [s0, s4, s5, h10, hw, neq, h3, pm, pmW, pmB, ft, ↓reduceIte, reduceCtorEq, nE, nA, nM, nD, nL, iL, iT, iE, iN, iC]
            rw [h3] at fin1 hm
            refine hA.app lh (by decide) rfl (by omega) (by simp only [maxLen]; omega) fun v' h3' a' l' sd => ?_
            try simp only [s5, hw, h3, pm, pmW, pmB, ft, ↓reduceIte, reduceCtorEq, nE, nA, nM, nD, nL, iL, iT, iE, iN, iC]
            exact fin1 hm _ _ (by simpa [put] using a') l' (by simp [put, s0]) (by simp [put]) (by simp [put])
      · rw [if_neg h13, Bool.not_false, Bool.and_true] at hm
        try simp only [s0, s5, hx, hlt, hw, h13, nsucc, neq, tn, n0, pm, pmW, pmB, ft, ↓reduceIte, reduceCtorEq, nE, nA, nM, nD, nL, iL, iT, iE, iN, iC]
        refine ClassR _ _ ?_
        by_cases h10 : classT c = 10
        · rw [if_pos (by simp [h10])] at hm
          try simp only [s0, s4, s5, h10, hw, neq, pm, pmW, pmB, ft, ↓reduceIte, reduceCtorEq, nE, nA, nM, nD, nL, iL, iT, iE, iN, iC]
          refine hA.app lh (by decide) rfl (by omega) (by simp only [maxLen]; omega) fun v' h3' a' l' sd => ?_
          try simp only [s5, hw, pm, pmW, pmB, ft, ↓reduceIte, reduceCtorEq, nE, nA, nM, nD, nL, iL, iT, iE, iN, iC]
          exact fin1 hm _ _ (by simpa [put] using a') l' (by simp [put, s0]) (by simp [put]) (by simp [put])
        · by_cases h3 : i + 1 = X.length
          · rw [if_pos (by simp [h3])] at hm
            try simp only [s0, s4, s5, h10, hw, neq, h3, pm, pmW, pmB, ft, ↓reduceIte, reduceCtorEq, nE, nA, nM, nD, nL, iL, iT, iE, iN, iC]
            rw [h3] at fin1 hm
            refine hA.app lh (by decide) rfl (by omega) (by simp only [maxLen]; omega) fun v' h3' a' l' sd => ?_
            try simp only [s5, hw, h3, pm, pmW, pmB, ft, ↓reduceIte, reduceCtorEq, nE, nA, nM, nD, nL, iL, iT, iE, iN, iC]
            exact fin1 hm _ _ (by simpa [put] using a') l' (by simp [put, s0]) (by simp [put]) (by simp [put])
          · rw [if_neg (by simp [h10, h3])] at hm
            try simp only [s0, s5, h10, hw, neq, h3, pm, pmW, pmB, ft, ↓reduceIte, reduceCtorEq, nE, nA, nM, nD, nL, iL, iT, iE, iN, iC]
            exact fin0 hm _ (by simp [put, s0]) (by simp [put]) (by simp [put, s4]) (by simp [put])
    · have hil : i = X.length := by omega
      subst hil
      rw [rpl_end] at hA
      try simp only [pm, pmW, pmB, ft, ↓reduceIte, reduceCtorEq, nE, nA, nM, nD, nL, iL, iT, iE, iN, iC]
      exact hA.fin lh (by rw [old_sp]; exact k)
theorem partsB_app : ∀ (l m : List (Int × Int)) (e f n : Int), partsB e l f = true → partsB e (l ++ m) n = partsB f m n
  | [], m, e, f, n, h => by simp [partsB] at h; subst h; rfl
  | p :: l, m, e, f, n, h => by
    simp only [partsB, Bool.and_eq_true] at h
    simp only [List.cons_append, partsB, partsB_app l m p.2 f n h.2.2, h.1, h.2.1, Bool.true_and]
theorem spl_parts (X : List Int) : ∀ i, partsB 0 (spl X i).1 (spl X i).2 = true
  | 0 => rfl
  | i + 1 => by
    have ih := spl_parts X i
    have b := spl_in X i
    unfold spl
    split
    · simp only
      rw [partsB_app _ _ _ _ _ ih]
      simp only [partsB, Bool.and_eq_true, decide_eq_true_eq]
      refine ⟨trivial, ⟨by omega, by omega⟩, trivial⟩
    · exact ih
theorem split_parts (X : List Int) : partsB 0 (splitT X) X.length = true := by
  have ih := spl_parts X X.length
  have b := spl_in X X.length
  unfold splitT
  rw [partsB_app _ _ _ _ _ ih]
  split
  · simp only [partsB, Bool.and_eq_true, decide_eq_true_eq]
    refine ⟨trivial, ⟨by omega, by omega⟩, trivial⟩
  · simp [partsB]; omega
end Go.Proofs.YtcgaphmndnmfdaaGreat
