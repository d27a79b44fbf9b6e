/-
  What is open, what is loose, and what ends it (balance.Open, Loose, Close).
  Conditions: rows of at most a million.
-/
import Derived.Test.YtcgaphmndnmfdaaGreatBalA
import Derived.Test.YtcgaphmndnmfdaaGreatBackI
import Derived.Test.YtcgaphmndnmfdaaGreatIntsCat
import Derived.Test.YtcgaphmndnmfdaaGreatRf
import Derived.Test.YtcgaphmndnmfdaaGreatLsort
import Derived.Test.YtcgaphmndnmfdaaGreatParaA
namespace Go.Proofs.YtcgaphmndnmfdaaGreat
open Go.Pm
open Nat renaming reduceEqDiff → nE, reduceAdd → nA, reduceMul → nM, reduceLeDiff → nD, reduceLT → nL
open Int renaming reduceLE → iL, reduceLT → iT, reduceEq → iE, reduceToNat → iN, cast_ofNat_Int → iC
set_option maxRecDepth 100000
set_option linter.unusedSimpArgs false
set_option linter.unusedVariables false

theorem wkT_ok (C : List Int) : Wok C C.length (wkT C) := wk_ok C C.length (Nat.le_refl _)
def endC (C : List Int) (x : Int) : Int := if isoB C x then 8297 else 8236
def endsT (C : List Int) : List Int := (wkT C).st.reverse.map (endC C)
theorem oldS_at (σ : Sl) (t : Nat) : oldS σ t = (σ t).old := rfl
theorem Loose (fr : Bool) (C : List Int) (hC : C.length ≤ 1000000) (h : Heap) {K : PV → Heap → Prop} (k : ∀ f, K (.list f 1 (wkT C).ls.length ((wkT C).ls.map (.int .i64))) h) :
    CanP Tryz.prog 48 [.list fr 1 C.length (C.map (.int .i64))] h K := by
  refine e48 rfl ?_
  try simp only [c48, r48_0, r48_1, pm, pmW, pmB, ft, ↓reduceIte, reduceCtorEq, nE, nA, nM, nD, nL, iL, iT, iE, iN, iC]
  refine walked _ C hC _ ?_
  try simp only [walkV, pm, pmW, pmB, ft, ↓reduceIte, reduceCtorEq, nE, nA, nM, nD, nL, iL, iT, iE, iN, iC]
  exact finK_rf (k _)
theorem LooseT (fr : Bool) (C : List Int) (hC : C.length ≤ 1000000) (h : Heap) {K : PV → Heap → Prop} (k : K (.list true 1 (wkT C).ls.length ((wkT C).ls.map (.int .i64))) h) :
    CanP Tryz.prog 48 [.list fr 1 C.length (C.map (.int .i64))] h K := by
  refine e48 rfl ?_
  try simp only [c48, r48_0, r48_1, pm, pmW, pmB, ft, ↓reduceIte, reduceCtorEq, nE, nA, nM, nD, nL, iL, iT, iE, iN, iC]
  refine walked _ C hC _ ?_
  try simp only [walkV, pm, pmW, pmB, ft, ↓reduceIte, reduceCtorEq, nE, nA, nM, nD, nL, iL, iT, iE, iN, iC]
  exact finK_rf k
def openT (C : List Int) : List Int := ((wkT C).st ++ (wkT C).lo).mergeSort fun x y => decide (x ≤ y)
theorem SortNil (h : Heap) {K : PV → Heap → Prop} (k : K (.tup []) h) : CanP Tryz.prog 90 [.nils] h K :=
  ⟨enterSort, fun w cargs hw ha => by
    simp only [TR, VR] at ha
    obtain ⟨v, vs', h1, rfl, rfl⟩ := ha
    obtain rfl : cargs = #[.slice none 0 0] := by
      apply Array.toList_inj.1; exact h1
    refine (sortNone none 0 w).mono ?_
    rintro e w' ⟨rfl, rfl⟩
    exact ⟨.tup [], _, _, rfl, St.refl _ _, hw, by simp [VR, TR], k⟩⟩
theorem Open (fr : Bool) (C : List Int) (hC : C.length ≤ 1000000) (h : Heap) {K : PV → Heap → Prop} (k : K (.list true 1 (openT C).length ((openT C).map (.int .i64))) h) :
    CanP Tryz.prog 47 [.list fr 1 C.length (C.map (.int .i64))] h K := by
  obtain ⟨ok1, ok2⟩ := wkT_ok C
  refine e47 rfl ?_
  try simp only [c47, r47_0, r47_1, r47_2, r47_3, r47_4, pm, pmW, pmB, ft, ↓reduceIte, reduceCtorEq, nE, nA, nM, nD, nL, iL, iT, iE, iN, iC]
  refine walked _ C hC _ ?_
  rw [openT] at k
  generalize wkT C = w at *
  try simp only [walkV, pm, pmW, pmB, ft, ↓reduceIte, reduceCtorEq, nE, nA, nM, nD, nL, iL, iT, iE, iN, iC]
  obtain ⟨b0, hb0⟩ := h.fresh
  refine ⟨fun v h' => Acc h h' v 1 (w.st ++ w.lo).length ((w.st ++ w.lo).map (.int .i64)) ∧ h.le h', ⟨_, _, Acc.buf hb0 (Heap.set_same _ _ _) (by simp), Heap.le_set (Heap.le_refl _) hb0⟩, ?_, ?_⟩
  · refine ConcatB _ [_, _] [w.st, w.lo] (by simp; omega) (by simp) _ ⟨.inr (.inl ⟨_, rfl⟩), .inr (.inl ⟨_, rfl⟩), trivial⟩ fun v h' a l => ?_
    have e : [w.st, w.lo].flatten = w.st ++ w.lo := by simp
    rw [e] at a
    exact ⟨a, l⟩
  rintro v h' ⟨a, l⟩
  generalize hX : w.st ++ w.lo = X at *
  have hXl : X.length ≤ 1000000 := by rw [← hX, List.length_append]; omega
  rcases a with ⟨rfl, e0, _⟩ | ⟨b, rfl, hn, hb, hbl⟩
  · have : X = [] := List.length_eq_zero_iff.1 e0
    subst this
    try simp only [pm, pmW, pmB, ft, ↓reduceIte, reduceCtorEq, nE, nA, nM, nD, nL, iL, iT, iE, iN, iC]
    refine SortNil _ ?_
    try simp only [pm, pmW, pmB, ft, ↓reduceIte, reduceCtorEq, nE, nA, nM, nD, nL, iL, iT, iE, iN, iC]
    exact (Acc.nil _ _ 1).fin l (by simpa [olds] using k)
  · try simp only [pm, pmW, pmB, ft, ↓reduceIte, reduceCtorEq, nE, nA, nM, nD, nL, iL, iT, iE, iN, iC]
    refine SortI X hXl b _ hb ?_
    try simp only [pm, pmW, pmB, ft, ↓reduceIte, reduceCtorEq, nE, nA, nM, nD, nL, iL, iT, iE, iN, iC]
    rw [List.length_mergeSort] at k
    refine Acc.fin (cs := (X.mergeSort fun x y => decide (x ≤ y)).map (.int .i64)) (Acc.buf hn (Heap.set_same _ _ _) (by simp)) (Heap.le_set l hn) ?_
    rw [olds_ints]; exact k
end Go.Proofs.YtcgaphmndnmfdaaGreat

/-
  The document's walk, and what it says of what is open, loose, and ends it.
  Conditions: rows of at most a million.
-/
namespace Go.Proofs.YtcgaphmndnmfdaaGreat
open Go.Pm
open Nat renaming reduceEqDiff → nE, reduceAdd → nA, reduceMul → nM, reduceLeDiff → nD, reduceLT → nL
open Int renaming reduceLE → iL, reduceLT → iT, reduceEq → iE, reduceToNat → iN, cast_ofNat_Int → iC
set_option maxRecDepth 100000
set_option linter.unusedSimpArgs false
set_option linter.unusedVariables false

theorem EmbedsR (c : Int) (h : Heap) {K : PV → Heap → Prop} (k : K (.bool (embT c)) h) : CanP Tryz.prog 98 [.int .i64 c] h K := by
  have e : embT c = (decide (c = 14) || (decide (c = 15) || (decide (c = 16) || decide (c = 17)))) := by
    simp only [embT, embL, List.contains_cons, List.contains_nil, Bool.or_false]
    rfl
  refine e98 rfl ?_
  rw [e] at k
  cases h1 : decide (c = 14)
  · cases h2 : decide (c = 15)
    · cases h3 : decide (c = 16)
      · try simp only [c98, r98_0, r98_1, h1, h2, h3, pm, pmW, pmB, ft, ↓reduceIte, reduceCtorEq, nE, nA, nM, nD, nL, iL, iT, iE, iN, iC]
        exact finK_rf (by simpa [h1, h2, h3] using k)
      · try simp only [c98, r98_0, r98_1, h1, h2, h3, pm, pmW, pmB, ft, ↓reduceIte, reduceCtorEq, nE, nA, nM, nD, nL, iL, iT, iE, iN, iC]
        exact finK_rf (by simpa [h1, h2, h3] using k)
    · try simp only [c98, r98_0, r98_1, h1, h2, pm, pmW, pmB, ft, ↓reduceIte, reduceCtorEq, nE, nA, nM, nD, nL, iL, iT, iE, iN, iC]
      exact finK_rf (by simpa [h1, h2] using k)
  · try simp only [c98, r98_0, r98_1, h1, pm, pmW, pmB, ft, ↓reduceIte, reduceCtorEq, nE, nA, nM, nD, nL, iL, iT, iE, iN, iC]
    exact finK_rf (by simpa [h1] using k)
theorem popR_app (C : List Int) (x : Int) (R : List Int) (hx : isoB C x = true) : ∀ L : List Int, (∀ y ∈ L, isoB C y = false) → popR C (L ++ x :: R) = (L, R)
  | [], _ => by
    have : opensT (atW C x) = true := hx
    simp [popR, this]
  | y :: L, h => by
    have : opensT (atW C y) = false := h y (by simp)
    have ih := popR_app C x R hx L fun z hz => h z (by simp [hz])
    rw [List.cons_append, popR, if_neg (by simp [this]), ih]
/-- What the document's walk took off. -/
def gk (C : List Int) : Nat → List Int
  | 0 => []
  | i + 1 => if (embT (C.getD i default) = true ∨ opensT (C.getD i default) = true) ∨ C.getD i default ≠ 22 ∨ (wk C i).st.any (isoB C) = false then gk C i else gk C i ++ (popR C (wk C i).st.reverse).1.reverse
theorem gk_perm (C : List Int) : ∀ i, (gk C i).Perm (wk C i).lo
  | 0 => List.Perm.refl _
  | i + 1 => by
    have ih := gk_perm C i
    rw [gk, wk, stepW]
    by_cases h1 : embT (C.getD i default) = true ∨ opensT (C.getD i default) = true
    · rw [if_pos (.inl h1), if_pos h1]; exact ih
    · rw [if_neg h1]
      by_cases h2 : C.getD i default = 18
      · rw [if_pos h2, if_pos (.inr (.inl (by omega))), endE]
        split <;> exact ih
      · rw [if_neg h2]
        by_cases h3 : C.getD i default = 22
        · rw [if_pos h3, endI]
          cases h4 : (wk C i).st.any (isoB C)
          · rw [if_pos (.inr (.inr rfl)), if_neg (by simp)]; exact ih
          · rw [if_neg (by rintro (a | a | a); exact h1 a; exact a h3; cases a), if_pos rfl]
            exact ih.append (List.reverse_perm _)
        · rw [if_neg h3, if_pos (.inr (.inl h3))]; exact ih
theorem gk_len (C : List Int) (i : Nat) : (gk C i).length = (wk C i).lo.length := (gk_perm C i).length_eq
/-- What is above the last isolate. -/
theorem top_iso (C : List Int) (st : List Int) (t : Nat) (ht : t ≤ st.length) (hab : ∀ i, t ≤ i → i < st.length → isoB C (st.getD i default) = false) :
    (t = 0 → st.any (isoB C) = false) ∧ (0 < t → isoB C (st.getD (t - 1) default) = true → st.any (isoB C) = true ∧ (popR C st.reverse).1.reverse = st.drop t ∧ (popR C st.reverse).2.reverse = st.take (t - 1)) := by
  refine ⟨fun e => ?_, fun h0 hx => ?_⟩
  · rw [List.any_eq_false]
    intro x hx
    obtain ⟨i, hi, rfl⟩ := List.mem_iff_getElem.1 hx
    have := hab i (by omega) hi
    simpa [List.getD, hi] using this
  · have hlt : t - 1 < st.length := by omega
    have e : st = st.take (t - 1) ++ st.getD (t - 1) default :: st.drop t := by
      have := (List.take_append_drop (t - 1) st).symm
      rw [drop_getD st hlt, show t - 1 + 1 = t by omega] at this
      exact this
    have er : st.reverse = (st.drop t).reverse ++ st.getD (t - 1) default :: (st.take (t - 1)).reverse := by
      have := congrArg List.reverse e
      simpa using this
    have hp := popR_app C (st.getD (t - 1) default) (st.take (t - 1)).reverse hx (st.drop t).reverse fun y hy => by
      rw [List.mem_reverse] at hy
      obtain ⟨i, hi, rfl⟩ := List.mem_iff_getElem.1 hy
      rw [List.length_drop] at hi
      have := hab (t + i) (by omega) (by omega)
      simpa [List.getD, show t + i < st.length by omega] using this
    rw [← er] at hp
    rw [hp]
    refine ⟨?_, by simp, by simp⟩
    rw [List.any_eq_true]
    exact ⟨_, get_mem st hlt, hx⟩
theorem emb_iso {C : List Int} {x : Int} (h : embT (atW C x) = true ∨ opensT (atW C x) = true) : embT (atW C x) = !isoB C x := by
  rw [isoB]
  generalize atW C x = c at *
  have e1 : embT c = true ↔ c = 14 ∨ c = 15 ∨ c = 16 ∨ c = 17 := by simp [embT, embL]
  have e2 : opensT c = true ↔ c = 19 ∨ c = 20 ∨ c = 21 := by simp [opensT, opensL]
  cases a : embT c <;> cases b : opensT c
  · simp [a, b] at h
  · rfl
  · rfl
  · have := e1.1 a; have := e2.1 b; omega
end Go.Proofs.YtcgaphmndnmfdaaGreat

/-
  The document's walk.
  Conditions: rows of at most a million.
-/
namespace Go.Proofs.YtcgaphmndnmfdaaGreat
open Go.Pm
open Nat renaming reduceEqDiff → nE, reduceAdd → nA, reduceMul → nM, reduceLeDiff → nD, reduceLT → nL
open Int renaming reduceLE → iL, reduceLT → iT, reduceEq → iE, reduceToNat → iN, cast_ofNat_Int → iC
set_option maxRecDepth 100000
set_option linter.unusedSimpArgs false
set_option linter.unusedVariables false

theorem slcB_loN {k : Option Nat} {E b off n : Nat} {K : Kt} {h : Heap} (h0 : 0 < n) : slcK k (some E) (.buf b E off n) (some (.int .i64 (n : Int))) none K h = K (.list true E 0 []) h := by
  have := cut_lo (n := n) (j := n) (Nat.le_refl _)
  simp only [slcK, Option.isSome_some, true_and]
  rw [ex_cut this]
  have : ¬ n = 0 := by omega
  simp [this]
theorem stk_at {h h' : Heap} {b : Nat} {l : List Int} {ds : List PV} (hd : l.map (PV.int .i64) = ds.take (l.length * 1)) {i : Nat} (hi : i < l.length) : ds[i]? = some (.int .i64 (l.getD i default)) := by
  have := getm (PV.int .i64) l hi
  rw [hd, List.getElem?_take, if_pos (by omega)] at this
  exact this
theorem walkR (fr : Bool) (C : List Int) (hC : C.length ≤ 1000000) (h : Heap) {K : PV → Heap → Prop}
    (k : K (.tup [.list true 1 (wkT C).st.length ((wkT C).st.map (.int .i64)), .list true 1 (gk C C.length).length ((gk C C.length).map (.int .i64)), .list true 1 (wkT C).ls.length ((wkT C).ls.map (.int .i64))]) h) :
    CanP Tryz.prog 59 [.list fr 1 C.length (C.map (.int .i64))] h K := by
  refine e59 rfl ?_
  try simp only [c59, r59_0, r59_1, r59_2, r59_3, r59_4, r59_5, r59_6, r59_7, r59_8, r59_9, r59_10, r59_11, r59_12, r59_13, r59_14, r59_15, r59_16, r59_17, r59_18, r59_19, r59_20, r59_21, pm, pmW, pmB, ft, ↓reduceIte, reduceCtorEq, nE, nA, nM, nD, nL, iL, iT, iE, iN, iC]
  refine pwp_up C.length (fun i σ h' => Stk h h' (σ 5) 1 (wk C i).st.length ((wk C i).st.map (.int .i64)) ∧ Acc h h' (σ 6) 1 (gk C i).length ((gk C i).map (.int .i64)) ∧ Acc h h' (σ 7) 1 (wk C i).ls.length ((wk C i).ls.map (.int .i64)) ∧ (∀ b, blkOf (σ 5) = some b → blkOf (σ 6) ≠ some b ∧ blkOf (σ 7) ≠ some b) ∧ (∀ b, blkOf (σ 6) = some b → blkOf (σ 7) ≠ some b) ∧ h.le h' ∧ σ 0 = .list false 1 C.length (C.map (.int .i64)) ∧ σ 8 = .int .i64 i) ?_ ?_
  · exact ⟨Stk.nil _ _ _, Acc.nil _ _ _, Acc.nil _ _ _, fun b e => by simp [put, blkOf] at e, fun b e => by simp [put, blkOf] at e, Heap.le_refl _, rfl, rfl⟩
  rintro i σ h' K' hi ⟨a5, a6, a7, d5, d6, lh, s0, s8⟩ next
  rcases Nat.lt_or_ge i C.length with hlt | hge
  · have hw : IntKind.i64.wrap ((i : Int) + 1) = (i : Int) + 1 := wrap_in (by omega) (by omega)
    have hx := getm (PV.int .i64) C hlt
    obtain ⟨ok1, ok2⟩ := wk_ok C i (by omega)
    have hn : wk C (i + 1) = stepW C (wk C i) i (C.getD i default) := rfl
    have hg : gk C (i + 1) = if (embT (C.getD i default) = true ∨ opensT (C.getD i default) = true) ∨ C.getD i default ≠ 22 ∨ (wk C i).st.any (isoB C) = false then gk C i else gk C i ++ (popR C (wk C i).st.reverse).1.reverse := rfl
    have hgl := gk_len C i
    generalize C.getD i default = c at *
    generalize wk C i = w at *
    generalize gk C i = G at *
    have fin9 : ∀ (σ' : Sl) (h4 : Heap), Stk h h4 (σ' 5) 1 (wk C (i + 1)).st.length ((wk C (i + 1)).st.map (.int .i64)) → Acc h h4 (σ' 6) 1 (gk C (i + 1)).length ((gk C (i + 1)).map (.int .i64)) → Acc h h4 (σ' 7) 1 (wk C (i + 1)).ls.length ((wk C (i + 1)).ls.map (.int .i64)) → (∀ b, blkOf (σ' 5) = some b → blkOf (σ' 6) ≠ some b ∧ blkOf (σ' 7) ≠ some b) → (∀ b, blkOf (σ' 6) = some b → blkOf (σ' 7) ≠ some b) → h.le h4 → σ' 0 = σ 0 → σ' 8 = .int .i64 ((i : Int) + 1) → K' σ' h4 :=
      fun σ' h4 q5 q6 q7 e5 e6 l4 q0 q8 => next hlt _ _ ⟨q5, q6, q7, e5, e6, l4, by rw [q0, s0], by rw [q8]; rfl⟩
    have hlk : ∀ (K : Kt) (h : Heap), lenK (some 1) (σ 5) K h = K (.int .i64 w.st.length) h := fun K h => by
      rcases a5 with ⟨e, e2, _⟩ | ⟨b, ds, e, _⟩
      · rw [e, e2]; try simp only [pm, pmW, pmB, ft, ↓reduceIte, reduceCtorEq, nE, nA, nM, nD, nL, iL, iT, iE, iN, iC]
      · rw [e]; try simp only [pm, pmW, pmB, ft, ↓reduceIte, reduceCtorEq, nE, nA, nM, nD, nL, iL, iT, iE, iN, iC]
    have pushS : ∀ (K4 : Kt), (∀ v' h4, Stk h h4 v' 1 (w.st ++ [(i : Int)]).length ((w.st ++ [(i : Int)]).map (.int .i64)) → Acc h h4 (σ 6) 1 G.length (G.map (.int .i64)) → Acc h h4 (σ 7) 1 w.ls.length (w.ls.map (.int .i64)) → (∀ b, blkOf v' = some b → blkOf (σ 6) ≠ some b ∧ blkOf (σ 7) ≠ some b) → h.le h4 → K4 v' h4) → ap2K (some (1, [.int .i64 i])) 1 8 (σ 5) K4 h' := by
      intro K4 k4
      refine a5.app lh (by decide) rfl (by omega) (by simp only [maxLen]; omega) fun v' h4 a4 l4 sd => ?_
      have b6 := a6.beside sd fun b e f => (d5 b f).1 e
      have b7 := a7.beside sd fun b e f => (d5 b f).2 e
      exact k4 v' h4 (by simpa using a4) b6.1 b7.1 (fun b e => ⟨fun f => b6.2 b f e, fun f => b7.2 b f e⟩) l4
    have pushO : ∀ (K4 : Kt), (∀ v' h4, Stk h h4 (σ 5) 1 w.st.length (w.st.map (.int .i64)) → Acc h h4 (σ 6) 1 G.length (G.map (.int .i64)) → Acc h h4 v' 1 (w.ls ++ [(i : Int)]).length ((w.ls ++ [(i : Int)]).map (.int .i64)) → (∀ b, blkOf (σ 5) = some b → blkOf v' ≠ some b) → (∀ b, blkOf (σ 6) = some b → blkOf v' ≠ some b) → h.le h4 → K4 v' h4) → ap2K (some (1, [.int .i64 i])) 1 8 (σ 7) K4 h' := by
      intro K4 k4
      refine a7.app lh (by decide) rfl (by omega) (by simp only [maxLen]; omega) fun v' h4 a4 l4 sd => ?_
      have b5 := a5.beside sd fun b e => (d5 b e).2
      have b6 := a6.beside sd fun b e => d6 b e
      exact k4 v' h4 b5.1 b6.1 (by simpa using a4) b5.2 b6.2 l4
    try simp only [s0, s8, hlt, hx, hlk, pm, pmW, pmB, ft, ↓reduceIte, reduceCtorEq, nE, nA, nM, nD, nL, iL, iT, iE, iN, iC]
    refine EmbedsR _ _ ?_
    cases he : embT c
    · try simp only [pm, pmW, pmB, ft, ↓reduceIte, reduceCtorEq, nE, nA, nM, nD, nL, iL, iT, iE, iN, iC]
      refine OpensR _ _ ?_
      cases ho : opensT c
      · try simp only [pm, pmW, pmB, ft, ↓reduceIte, reduceCtorEq, nE, nA, nM, nD, nL, iL, iT, iE, iN, iC]
        have hN0 : ¬ (embT c = true ∨ opensT c = true) := by simp [he, ho]
        by_cases h18 : c = 18
        · have hd : decide (c = 18) = true := decide_eq_true h18
          have hN : wk C (i + 1) = endE C w i := by rw [hn, stepW, if_neg hN0, if_pos h18]
          have hG : gk C (i + 1) = G := by rw [hg, if_pos (.inr (.inl (by omega)))]
          rw [hN, hG] at fin9
          by_cases e0 : w.st = []
          · have hl0 : ¬ (0 : Int) < (w.st.length : Int) := by simp [e0]
            have hE : endE C w i = ⟨w.st, w.lo, w.ls ++ [(i : Int)]⟩ := by rw [endE, if_neg (by simp [e0])]
            rw [hE] at fin9
            try simp only [hd, hl0, s8, pm, pmW, pmB, ft, ↓reduceIte, reduceCtorEq, nE, nA, nM, nD, nL, iL, iT, iE, iN, iC]
            refine pushO _ fun v' h4 q5 q6 q7 e5 e6 l4 => ?_
            try simp only [s8, hw, pm, pmW, pmB, ft, ↓reduceIte, reduceCtorEq, nE, nA, nM, nD, nL, iL, iT, iE, iN, iC]
            exact fin9 _ _ (by simpa [put] using q5) (by simpa [put] using q6) (by simpa [put] using q7) (fun b e => by simp [put] at e ⊢; exact ⟨(d5 b e).1, e5 b e⟩) (fun b e => by simp [put] at e ⊢; exact e6 b e) l4 (by simp [put]) (by simp [put])
          · have hpos : 0 < w.st.length := List.length_pos_iff.2 e0
            have hl0 : (0 : Int) < (w.st.length : Int) := by omega
            have hwl : IntKind.i64.wrap ((w.st.length : Int) - 1) = ((w.st.length - 1 : Nat) : Int) := by rw [wrap_in (by omega) (by omega)]; omega
            obtain ⟨b, ds, e5, hb0, hb, hbl, hbt⟩ := a5.resolve_left fun e => by omega
            have hlt1 : w.st.length - 1 < w.st.length := by omega
            have hx1 := stk_at (h := h) (h' := h') (b := b) hbt hlt1
            obtain ⟨hm, -⟩ := last_get w.st e0
            obtain ⟨j, hj, hjl, hg2⟩ := at_get C ⟨(ok1 _ hm).1, (ok1 _ hm).2.1⟩
            have hEE : endE C w i = if w.st ≠ [] ∧ embT (atW C (w.st.getD (w.st.length - 1) default)) = true then ⟨w.st.dropLast, w.lo, w.ls⟩ else ⟨w.st, w.lo, w.ls ++ [(i : Int)]⟩ := rfl
            generalize w.st.getD (w.st.length - 1) default = x at *
            subst hj
            try simp only [hd, hl0, s0, s8, e5, hwl, hlt1, hb, hx1, hjl, hg2, pm, pmW, pmB, ft, ↓reduceIte, reduceCtorEq, nE, nA, nM, nD, nL, iL, iT, iE, iN, iC]
            refine EmbedsR _ _ ?_
            cases hem : embT (atW C (j : Int))
            · rw [hem, if_neg (by simp)] at hEE
              rw [hEE] at fin9
              try simp only [hd, s8, pm, pmW, pmB, ft, ↓reduceIte, reduceCtorEq, nE, nA, nM, nD, nL, iL, iT, iE, iN, iC]
              refine pushO _ fun v' h4 q5 q6 q7 e5' e6 l4 => ?_
              try simp only [s8, hw, pm, pmW, pmB, ft, ↓reduceIte, reduceCtorEq, nE, nA, nM, nD, nL, iL, iT, iE, iN, iC]
              exact fin9 _ _ (by simpa [put] using q5) (by simpa [put] using q6) (by simpa [put] using q7) (fun b e => by simp [put] at e ⊢; exact ⟨(d5 b e).1, e5' b e⟩) (fun b e => by simp [put] at e ⊢; exact e6 b e) l4 (by simp [put]) (by simp [put])
            · rw [hem, if_pos ⟨e0, rfl⟩] at hEE
              rw [hEE] at fin9
              have a5' := a5
              rw [e5] at a5'
              have hcut := a5'.cut (m := w.st.length - 1) (by omega)
              have hdl : (w.st.map (PV.int .i64)).take ((w.st.length - 1) * 1) = w.st.dropLast.map (.int .i64) := by rw [Nat.mul_one, ← List.map_take, List.dropLast_eq_take]
              have hdn : w.st.length - 1 = w.st.dropLast.length := by simp
              have hsl := fun (K : Kt) (h : Heap) (k : Option Nat) => slcB_hi (k := k) (E := 1) (b := b) (off := 0) (K := K) (h := h) (show w.st.length - 1 ≤ w.st.length by omega)
              try simp only [e5, hwl, hsl, s8, hw, pm, pmW, pmB, ft, ↓reduceIte, reduceCtorEq, nE, nA, nM, nD, nL, iL, iT, iE, iN, iC]
              rw [hdl] at hcut
              exact fin9 _ _ (by simpa [put] using hcut) (by simpa [put] using a6) (by simpa [put] using a7) (fun b e => by simp [put] at e ⊢; exact d5 b (by rw [e5]; exact e)) (fun b e => by simp [put] at e ⊢; exact d6 b e) lh (by simp [put]) (by simp [put])
        · have hd : decide (c = 18) = false := decide_eq_false h18
          by_cases h22 : c = 22
          · have hd2 : decide (c = 22) = true := decide_eq_true h22
            have hN : wk C (i + 1) = endI C w i := by rw [hn, stepW, if_neg hN0, if_neg h18, if_pos h22]
            rw [hN] at fin9
            have hG : gk C (i + 1) = if w.st.any (isoB C) = false then G else G ++ (popR C w.st.reverse).1.reverse := by
              rw [hg]
              by_cases q : w.st.any (isoB C) = false
              · rw [if_pos (.inr (.inr q)), if_pos q]
              · rw [if_neg q, if_neg (by rintro (a | a | a); exact hN0 a; exact a h22; exact q a)]
            rw [hG] at fin9
            have hwl : IntKind.i64.wrap ((w.st.length : Int) - 1) = (w.st.length : Int) - 1 := wrap_in (by omega) (by omega)
            try simp only [hd, hd2, hwl, pm, pmW, pmB, ft, ↓reduceIte, reduceCtorEq, nE, nA, nM, nD, nL, iL, iT, iE, iN, iC]
            refine pwp_fall (fun t σ9 h9 => h9 = h' ∧ t ≤ w.st.length ∧ σ9 0 = σ 0 ∧ σ9 5 = σ 5 ∧ σ9 6 = σ 6 ∧ σ9 7 = σ 7 ∧ σ9 8 = σ 8 ∧ σ9 11 = .int .i64 ((t : Int) - 1) ∧ ∀ j, t ≤ j → j < w.st.length → isoB C (w.st.getD j default) = false) w.st.length ⟨rfl, Nat.le_refl _, by simp [put], by simp [put], by simp [put], by simp [put], by simp [put], by simp [put], fun j h1 h2 => by omega⟩ ?_
            rintro t σ9 h9 K9 ⟨rfl, ht, z0, z5, z6, z7, z8, z11, hab⟩ next9
            obtain ⟨ti1, ti2⟩ := top_iso C w.st t ht hab
            rw [s0] at z0
            rw [s8] at z8
            by_cases t0 : t = 0
            · subst t0
              have hany := ti1 rfl
              have hE : endI C w i = ⟨w.st, w.lo, w.ls ++ [(i : Int)]⟩ := by rw [endI, if_neg (by simp [hany])]
              rw [hE, hany, if_pos rfl] at fin9
              have hz : IntKind.i64.wrap ((0 : Int) - 1) = -1 := by decide
              have z11' : σ9 11 = .int .i64 (-1) := by simpa using z11
              try simp only [z0, z7, z8, z11', pm, pmW, pmB, ft, ↓reduceIte, reduceCtorEq, nE, nA, nM, nD, nL, iL, iT, iE, iN, iC]
              refine pushO _ fun v' h4 q5 q6 q7 e5' e6 l4 => ?_
              try simp only [z8, hw, pm, pmW, pmB, ft, ↓reduceIte, reduceCtorEq, nE, nA, nM, nD, nL, iL, iT, iE, iN, iC]
              exact fin9 _ _ (by simpa [put, z5] using q5) (by simpa [put, z6] using q6) (by simpa [put] using q7) (fun b e => by simp [put, z5, z6] at e ⊢; exact ⟨(d5 b e).1, e5' b e⟩) (fun b e => by simp [put, z6] at e ⊢; exact e6 b e) l4 (by simp [put, z0, s0]) (by simp [put])
            · have hpos : 0 < w.st.length := by omega
              obtain ⟨b, ds, e5, hb0, hb, hbl, hbt⟩ := a5.resolve_left fun e => by omega
              have hlt1 : t - 1 < w.st.length := by omega
              have hx1 := stk_at (h := h) (h' := h9) (b := b) hbt hlt1
              have hcast : (t : Int) - 1 = ((t - 1 : Nat) : Int) := by omega
              rw [hcast] at z11
              have hm := ok1 _ (get_mem w.st hlt1)
              obtain ⟨j, hj, hjl, hg2⟩ := at_get C ⟨hm.1, hm.2.1⟩
              have hei := emb_iso hm.2.2
              have hn0 : ¬ ((t - 1 : Nat) : Int) < 0 := by omega
              have hw1 : IntKind.i64.wrap (((t - 1 : Nat) : Int) - 1) = ((t - 1 : Nat) : Int) - 1 := wrap_in (by omega) (by omega)
              have ti2 := ti2 (by omega)
              have hdx : ∀ (A : Prop), (isoB C (w.st.getD (t - 1) default) = false → A) → isoB C (w.st.getD (t - 1) default) = false → A := fun A f => f
              have e5' : σ9 5 = .buf b 1 0 w.st.length := by rw [z5, e5]
              have hgx : ∀ q, t - 1 ≤ q → q < w.st.length → isoB C (w.st.getD (t - 1) default) = false → isoB C (w.st.getD q default) = false := fun q q1 q2 q3 => by
                by_cases e : q = t - 1
                · rw [e]; exact q3
                · exact hab q (by omega) q2
              generalize w.st.getD (t - 1) default = x at *
              subst hj
              try simp only [z0, z11, e5', hlt1, hb, hx1, hjl, hg2, hn0, pm, pmW, pmB, ft, ↓reduceIte, reduceCtorEq, nE, nA, nM, nD, nL, iL, iT, iE, iN, iC]
              refine EmbedsR _ _ ?_
              rw [hei]
              cases hiso : isoB C (j : Int)
              · try simp only [z11, hw1, pm, pmW, pmB, ft, ↓reduceIte, reduceCtorEq, nE, nA, nM, nD, nL, iL, iT, iE, iN, iC]
                exact next9 (t - 1) _ _ (by omega) ⟨rfl, by omega, by simp [put, z0, s0], by simp [put, z5], by simp [put, z6], by simp [put, z7], by simp [put, z8, s8], by simp [put], fun q q1 q2 => hgx q q1 q2 hiso⟩
              · obtain ⟨hany, hp1, hp2⟩ := ti2 hiso
                have hE : endI C w i = ⟨w.st.take (t - 1), w.lo ++ (popR C w.st.reverse).1, w.ls⟩ := by rw [endI, if_pos hany, hp2]
                rw [hE, hany, if_neg (by simp), hp1] at fin9
                have hw2 : IntKind.i64.wrap (((t - 1 : Nat) : Int) + 1) = ((t : Nat) : Int) := by rw [wrap_in (by omega) (by omega)]; omega
                have hsl := fun (K : Kt) (h : Heap) (k : Option Nat) => slcB_hi (k := k) (E := 1) (b := b) (off := 0) (K := K) (h := h) (show t - 1 ≤ w.st.length by omega)
                have a5' := a5
                rw [e5] at a5'
                have hcut := a5'.cut (m := t - 1) (by omega)
                have hdl : (w.st.map (PV.int .i64)).take ((t - 1) * 1) = (w.st.take (t - 1)).map (.int .i64) := by rw [Nat.mul_one, ← List.map_take]
                rw [hdl] at hcut
                have hlen : (w.st.take (t - 1)).length = t - 1 := by simp; omega
                have d5' : ∀ b', blkOf (PV.buf b 1 0 (t - 1)) = some b' → blkOf (σ 6) ≠ some b' ∧ blkOf (σ 7) ≠ some b' := fun b' e => d5 b' (by rw [e5]; exact e)
                have pushG : ∀ (K4 : Kt), (∀ v' h4, Stk h h4 (.buf b 1 0 (t - 1)) 1 (w.st.take (t - 1)).length ((w.st.take (t - 1)).map (.int .i64)) → Acc h h4 v' 1 (G ++ w.st.drop t).length ((G ++ w.st.drop t).map (.int .i64)) → Acc h h4 (σ 7) 1 w.ls.length (w.ls.map (.int .i64)) → (∀ b', blkOf (PV.buf b 1 0 (t - 1)) = some b' → blkOf v' ≠ some b' ∧ blkOf (σ 7) ≠ some b') → (∀ b, blkOf v' = some b → blkOf (σ 7) ≠ some b) → h.le h4 → K4 v' h4) → ap2K (some ((w.st.drop t).length, (w.st.drop t).map (.int .i64))) 1 8 (σ 6) K4 h9 := by
                  intro K4 k4
                  refine a6.appA lh (by simp) (by have := List.length_drop (i := t) (l := w.st); omega) (by have := List.length_drop (i := t) (l := w.st); simp only [maxLen]; omega) fun v' h4 a4 l4 sd => ?_
                  have b5 := hcut.beside sd fun b e => (d5' b e).1
                  have b7 := a7.beside sd fun b e f => d6 b f e
                  exact k4 v' h4 (by rw [hlen]; exact b5.1) (by simpa using a4) b7.1 (fun b' e => ⟨b5.2 b' e, (d5' b' e).2⟩) (fun b e f => b7.2 b f e) l4
                have hnew : (ds.drop t).take (w.st.length - t) = (w.st.drop t).map (.int .i64) := by
                  rw [List.map_drop, hbt, Nat.mul_one, List.drop_take]
                rcases Nat.lt_or_ge t w.st.length with htn | htn
                · have hsl2 := fun (K : Kt) (h : Heap) (k : Option Nat) => slcB_lo (k := k) (E := 1) (b := b) (off := 0) (K := K) (h := h) (show 0 < t by omega) htn
                  try simp only [z6, z11, e5', hn0, hw2, hsl2, hb, pm, pmW, pmB, ft, ↓reduceIte, reduceCtorEq, nE, nA, nM, nD, nL, iL, iT, iE, iN, iC]
                  rw [if_pos (by omega), hnew, ← List.length_drop]
                  refine pushG _ fun v' h4 q5 q6 q7 e5'' e6 l4 => ?_
                  try simp only [z5, e5, z11, hsl, z8, hw, pm, pmW, pmB, ft, ↓reduceIte, reduceCtorEq, nE, nA, nM, nD, nL, iL, iT, iE, iN, iC]
                  exact fin9 _ _ (by simpa [put] using q5) (by simpa [put] using q6) (by simpa [put, z7] using q7) (fun b' e => by simp only [put, reduceCtorEq, Nat.reduceEqDiff, if_false, if_true, z7, Option.some.injEq] at e ⊢; exact e5'' b' e) (fun b' e => by simp [put, z7] at e ⊢; exact e6 b' e) l4 (by simp [put, z0, s0]) (by simp [put])
                · have e : t = w.st.length := by omega
                  subst e
                  have hsl2 := fun (K : Kt) (h : Heap) (k : Option Nat) => slcB_loN (k := k) (E := 1) (b := b) (off := 0) (K := K) (h := h) hpos
                  try simp only [z6, z11, e5', hn0, hw2, hsl2, hb, pm, pmW, pmB, ft, ↓reduceIte, reduceCtorEq, nE, nA, nM, nD, nL, iL, iT, iE, iN, iC]
                  have hnil : w.st.drop w.st.length = [] := List.drop_length
                  rw [hnil] at pushG fin9
                  refine pushG _ fun v' h4 q5 q6 q7 e5'' e6 l4 => ?_
                  try simp only [z5, e5, z11, hsl, z8, hw, pm, pmW, pmB, ft, ↓reduceIte, reduceCtorEq, nE, nA, nM, nD, nL, iL, iT, iE, iN, iC]
                  exact fin9 _ _ (by simpa [put] using q5) (by simpa [put] using q6) (by simpa [put, z7] using q7) (fun b' e => by simp only [put, reduceCtorEq, Nat.reduceEqDiff, if_false, if_true, z7, Option.some.injEq] at e ⊢; exact e5'' b' e) (fun b' e => by simp [put, z7] at e ⊢; exact e6 b' e) l4 (by simp [put, z0, s0]) (by simp [put])
          · have hd2 : decide (c = 22) = false := decide_eq_false h22
            have hN : wk C (i + 1) = w := by rw [hn, stepW, if_neg hN0, if_neg h18, if_neg h22]
            have hG : gk C (i + 1) = G := by rw [hg, if_pos (.inr (.inl h22))]
            rw [hN, hG] at fin9
            try simp only [hd, hd2, s8, hw, pm, pmW, pmB, ft, ↓reduceIte, reduceCtorEq, nE, nA, nM, nD, nL, iL, iT, iE, iN, iC]
            exact fin9 _ _ (by simpa [put] using a5) (by simpa [put] using a6) (by simpa [put] using a7) (fun b e => by simp [put] at e ⊢; exact d5 b e) (fun b e => by simp [put] at e ⊢; exact d6 b e) lh (by simp [put]) (by simp [put])
      · have hN : wk C (i + 1) = ⟨w.st ++ [(i : Int)], w.lo, w.ls⟩ := by rw [hn, stepW, if_pos (.inr ho)]
        have hG : gk C (i + 1) = G := by rw [hg, if_pos (.inl (.inr ho))]
        rw [hN, hG] at fin9
        try simp only [s8, pm, pmW, pmB, ft, ↓reduceIte, reduceCtorEq, nE, nA, nM, nD, nL, iL, iT, iE, iN, iC]
        refine pushS _ fun v' h4 q5 q6 q7 e5 l4 => ?_
        try simp only [s8, hw, pm, pmW, pmB, ft, ↓reduceIte, reduceCtorEq, nE, nA, nM, nD, nL, iL, iT, iE, iN, iC]
        exact fin9 _ _ (by simpa [put] using q5) (by simpa [put] using q6) (by simpa [put] using q7) (fun b e => by simp [put] at e ⊢; exact e5 b e) (fun b e => by simp [put] at e ⊢; exact d6 b e) l4 (by simp [put]) (by simp [put])
    · have hN : wk C (i + 1) = ⟨w.st ++ [(i : Int)], w.lo, w.ls⟩ := by rw [hn, stepW, if_pos (.inl he)]
      have hG : gk C (i + 1) = G := by rw [hg, if_pos (.inl (.inl he))]
      rw [hN, hG] at fin9
      try simp only [s8, pm, pmW, pmB, ft, ↓reduceIte, reduceCtorEq, nE, nA, nM, nD, nL, iL, iT, iE, iN, iC]
      refine pushS _ fun v' h4 q5 q6 q7 e5 l4 => ?_
      try simp only [s8, hw, pm, pmW, pmB, ft, ↓reduceIte, reduceCtorEq, nE, nA, nM, nD, nL, iL, iT, iE, iN, iC]
      exact fin9 _ _ (by simpa [put] using q5) (by simpa [put] using q6) (by simpa [put] using q7) (fun b e => by simp [put] at e ⊢; exact e5 b e) (fun b e => by simp [put] at e ⊢; exact d6 b e) l4 (by simp [put]) (by simp [put])
  · have e : i = C.length := by omega
    subst e
    have hnl := Nat.lt_irrefl C.length
    try simp only [s0, s8, hnl, pm, pmW, pmB, ft, ↓reduceIte, reduceCtorEq, nE, nA, nM, nD, nL, iL, iT, iE, iN, iC]
    refine finK_wk (Wk.tup (us := [.list true 1 (wkT C).st.length ((wkT C).st.map (.int .i64)), .list true 1 (gk C C.length).length ((gk C C.length).map (.int .i64)), .list true 1 (wkT C).ls.length ((wkT C).ls.map (.int .i64))]) lh ⟨?_, ?_, ?_, trivial⟩) k
    · have := a5.wk lh
      rwa [olds_ints] at this
    · have := a6.wk lh
      rwa [olds_ints] at this
    · have := a7.wk lh
      rwa [olds_ints] at this
end Go.Proofs.YtcgaphmndnmfdaaGreat

/-
  What the document says is open, loose, and ends it.
  Conditions: rows of at most a million.
-/
namespace Go.Proofs.YtcgaphmndnmfdaaGreat
open Go.Pm
open Nat renaming reduceEqDiff → nE, reduceAdd → nA, reduceMul → nM, reduceLeDiff → nD, reduceLT → nL
open Int renaming reduceLE → iL, reduceLT → iT, reduceEq → iE, reduceToNat → iN, cast_ofNat_Int → iC
set_option maxRecDepth 100000
set_option linter.unusedSimpArgs false
set_option linter.unusedVariables false

abbrev Asc (l : List Int) : Prop := l.Pairwise fun x y => x ≤ y
theorem ins_asc {S : List Int} (s : Asc S) (x : Int) {k : Nat} (hk : k ≤ S.length) (h1 : ∀ p, p < k → S.getD p default < x) (h2 : k = S.length ∨ x ≤ S.getD k default) : Asc (S.take k ++ x :: S.drop k) := by
  have hd : ∀ y ∈ S.drop k, x ≤ y := fun y hy => by
    rcases h2 with e | e
    · rw [e, List.drop_length] at hy; cases hy
    · rcases Nat.lt_or_ge k S.length with hlt | hge
      · have s' : Asc (S.drop k) := s.sublist (List.drop_sublist _ _)
        rw [drop_getD S hlt] at s' hy
        rcases List.mem_cons.1 hy with rfl | hy
        · exact e
        · have := (List.pairwise_cons.1 s').1 y hy
          omega
      · rw [List.drop_eq_nil_of_le hge] at hy; cases hy
  have ht : ∀ y ∈ S.take k, y < x := fun y hy => by
    obtain ⟨p, hp, hpl, rfl⟩ := mem_take_get hy
    exact h1 p hp
  refine List.pairwise_append.2 ⟨s.sublist (List.take_sublist _ _), List.pairwise_cons.2 ⟨hd, s.sublist (List.drop_sublist _ _)⟩, fun y hy z hz => ?_⟩
  have a := ht y hy
  rcases List.mem_cons.1 hz with rfl | hz
  · omega
  · have := hd z hz; omega
theorem ins_perm (S : List Int) (x : Int) (k : Nat) : (S.take k ++ x :: S.drop k).Perm (S ++ [x]) := by
  have a : (S.take k ++ x :: S.drop k).Perm (x :: (S.take k ++ S.drop k)) := List.perm_middle
  rw [List.take_append_drop] at a
  exact a.trans (List.perm_append_singleton x S).symm
theorem asc_ms {X S : List Int} (p : S.Perm X) (s : Asc S) : S = X.mergeSort fun x y => decide (x ≤ y) := by
  have tr : ∀ a b c : Int, decide (a ≤ b) = true → decide (b ≤ c) = true → decide (a ≤ c) = true := fun a b c h1 h2 => by simp at *; omega
  have to : ∀ a b : Int, (decide (a ≤ b) || decide (b ≤ a)) = true := fun a b => by simp; omega
  refine List.Perm.eq_of_pairwise (le := fun x y => decide (x ≤ y) = true) (fun a b _ _ h1 h2 => by simp at h1 h2; omega) (s.imp fun {a b} q => by simpa using q) (List.pairwise_mergeSort tr to X) (p.trans (List.mergeSort_perm X _).symm)
theorem ms_perm {X Y : List Int} (h : X.Perm Y) : (X.mergeSort fun x y => decide (x ≤ y)) = Y.mergeSort fun x y => decide (x ≤ y) := by
  have tr : ∀ a b c : Int, decide (a ≤ b) = true → decide (b ≤ c) = true → decide (a ≤ c) = true := fun a b c h1 h2 => by simp at *; omega
  have to : ∀ a b : Int, (decide (a ≤ b) || decide (b ≤ a)) = true := fun a b => by simp; omega
  refine asc_ms ((List.mergeSort_perm X _).trans h) ((List.pairwise_mergeSort tr to X).imp fun {a b} q => by simpa using q)
theorem slcN_lo0 {k : Option Nat} {E : Nat} {K : Kt} {h : Heap} : slcK k (some E) .nils (some (.int .i64 0)) none K h = K .nils h := by
  have := cut_lo (n := 0) (j := 0) (Nat.le_refl _)
  simp only [slcK, Option.isSome_some, true_and]
  rw [show ((0 : Int)) = ((0 : Nat) : Int) from rfl, ex_cut this]
theorem sortedR (fr : Bool) (B : List Int) (hl : B.length ≤ 1000000) (h : Heap) {K : PV → Heap → Prop} (k : K (.list true 1 B.length ((B.mergeSort fun x y => decide (x ≤ y)).map (.int .i64))) h) :
    CanP Tryz.prog 60 [.list fr 1 B.length (B.map (.int .i64))] h K := by
  refine e60 rfl ?_
  try simp only [c60, r60_0, r60_1, r60_2, r60_3, r60_4, r60_5, r60_6, r60_7, r60_8, r60_9, pm, pmW, pmB, ft, ↓reduceIte, reduceCtorEq, nE, nA, nM, nD, nL, iL, iT, iE, iN, iC]
  refine pwp_up B.length (fun i σ h' => (∃ S : List Int, Acc h h' (σ 3) 1 i (S.map (.int .i64)) ∧ S.Perm (B.take i) ∧ Asc S) ∧ (i = 0 → σ 3 = .nils) ∧ h.le h' ∧ σ 0 = .list false 1 B.length (B.map (.int .i64)) ∧ σ 4 = .int .i64 i) ?_ ?_
  · exact ⟨⟨[], Acc.nil _ _ _, List.Perm.refl _, List.Pairwise.nil⟩, fun _ => rfl, Heap.le_refl _, rfl, rfl⟩
  rintro i σ h' K' hi ⟨⟨S, a, pS, sS⟩, hne, lh, s0, s4⟩ next
  rcases Nat.lt_or_ge i B.length with hlt | hge
  · have hw : IntKind.i64.wrap ((i : Int) + 1) = (i : Int) + 1 := wrap_in (by omega) (by omega)
    have hx := getm (PV.int .i64) B hlt
    have hSl : S.length = i := by rw [pS.length_eq, List.length_take]; omega
    have htk : B.take (i + 1) = B.take i ++ [B.getD i default] := by
      have := take_succ_map (fun x : Int => x) B hlt
      simpa using this
    have nxt : ∀ k, k ≤ i → (∀ p, p < k → S.getD p default < B.getD i default) → (k = i ∨ B.getD i default ≤ S.getD k default) → (S.take k ++ B.getD i default :: S.drop k).Perm (B.take (i + 1)) ∧ Asc (S.take k ++ B.getD i default :: S.drop k) := fun k h1 h2 h3 => by
      refine ⟨?_, ins_asc sS _ (by omega) h2 (by rw [hSl]; exact h3)⟩
      rw [htk]
      exact (ins_perm _ _ _).trans (pS.append_right _)
    generalize B.getD i default = c at *
    rcases a.live with ⟨e3, e0, e4⟩ | ⟨b, e3, hb, hb2, hbl⟩
    · subst e0
      have hlt0 : (0 : Int) < (B.length : Int) := by omega
      have hS0 : S = [] := List.eq_nil_of_length_eq_zero hSl
      subst hS0
      try simp only [s0, s4, hlt, hlt0, e3, pm, pmW, pmB, ft, ↓reduceIte, reduceCtorEq, nE, nA, nM, nD, nL, iL, iT, iE, iN, iC]
      refine pwp_fall (fun m σ h9 => h9 = h' ∧ σ 0 = .list false 1 B.length (B.map (.int .i64)) ∧ σ 3 = .nils ∧ σ 4 = .int .i64 (0 : Nat) ∧ σ 5 = .int .i64 0) 0 ⟨rfl, by simp [put, s0], by simp [put, e3], by simp [put, s4], by simp [put]⟩ ?_
      rintro m σ h9 K9 ⟨rfl, s0, s3, s4, s5⟩ -
      obtain ⟨n0, n1⟩ := nxt 0 (Nat.le_refl _) (fun p hp => by omega) (.inl rfl)
      have hx0 : (B.map (PV.int .i64))[0]? = some (.int .i64 c) := hx
      try simp only [s0, s3, s4, s5, hlt, hlt0, hx0, slcN_hi, slcN_lo0, pm, pmW, pmB, ft, ↓reduceIte, reduceCtorEq, nE, nA, nM, nD, nL, iL, iT, iE, iN, iC]
      refine ⟨by decide, by decide, fun b hb0 => ⟨by decide, fun b2 hb2 => ?_⟩⟩
      have hb2n : h9.f b2 = none := fresh_or hb0 hb2
      rw [Heap.kill_none hb0]
      refine next hlt _ _ ⟨⟨[c], ?_, n0, List.pairwise_singleton _ _⟩, fun e => by omega, ?_, by simp [put, s0], by simp [put, (show IntKind.i64.wrap 1 = 1 by decide)]⟩
      · have a4 : Acc h (h9.set b2 [.int .i64 c]) (.buf b2 1 0 1) 1 1 ([c].map (.int .i64)) := Acc.buf (Heap.le_none lh hb2n) (by rw [Heap.set_same]; rfl) rfl
        simpa [put] using a4
      · exact Heap.le_set lh (Heap.le_none lh hb2n)
    · have hJl : i ≤ (S.map (PV.int .i64)).length := by simp [hSl]
      have hJt : (S.map (PV.int .i64)).take i = S.map (.int .i64) := List.take_of_length_le (by simp [hSl])
      try simp only [s0, s4, hlt, e3, hb2, hJl, hJt, olds_ints, pm, pmW, pmB, ft, ↓reduceIte, reduceCtorEq, nE, nA, nM, nD, nL, iL, iT, iE, iN, iC]
      refine pwp_fall (fun m σ h9 => ∃ k : Nat, h9 = h'.kill b ∧ m = i - k ∧ k ≤ i ∧ σ 0 = .list false 1 B.length (B.map (.int .i64)) ∧ σ 3 = .list false 1 i (S.map (.int .i64)) ∧ σ 4 = .int .i64 i ∧ σ 5 = .int .i64 k ∧ ∀ p, p < k → S.getD p default < c) i ⟨0, rfl, rfl, by omega, by simp [put, s0], by simp [put], by simp [put, s4], by simp [put], fun p hp => by omega⟩ ?_
      rintro m σ h9 K9 ⟨k9, rfl, rfl, hk9, s0, s3, s4, s5, hi5⟩ wnext
      have lk : h.le (h'.kill b) := Heap.le_kill lh hb
      have ins := nxt k9 hk9 hi5
      by_cases p : k9 < i
      · have hy := getm (PV.int .i64) S (i := k9) (by omega)
        have hkw : IntKind.i64.wrap ((k9 : Int) + 1) = (k9 : Int) + 1 := wrap_in (by omega) (by omega)
        by_cases q : S.getD k9 default < c
        · try simp only [s0, s3, s4, s5, hlt, p, hx, hy, q, hkw, pm, pmW, pmB, ft, ↓reduceIte, reduceCtorEq, nE, nA, nM, nD, nL, iL, iT, iE, iN, iC]
          refine wnext (i - (k9 + 1)) _ _ (by omega) ⟨k9 + 1, rfl, rfl, by omega, by simp [put, s0], by simp [put], by simp [put, s4], by simp [put], fun p h1 => ?_⟩
          rcases Nat.lt_or_ge p k9 with e | e
          · exact hi5 p e
          · have : p = k9 := by omega
            rw [this]; exact q
        · try simp only [s0, s3, s4, s5, hlt, p, hx, hy, q, slcL_hi hk9, hJl, pm, pmW, pmB, ft, ↓reduceIte, reduceCtorEq, nE, nA, nM, nD, nL, iL, iT, iE, iN, iC]
          refine (Acc.nil h (h'.kill b) 1).appA (m := k9) lk (by rw [List.length_take, List.length_map, hSl]; omega) (by omega) (by simp only [maxLen]; omega) fun v1 h1 a1 l1 sd1 => ?_
          try simp only [s0, s4, hx, hlt, pm, pmW, pmB, ft, ↓reduceIte, reduceCtorEq, nE, nA, nM, nD, nL, iL, iT, iE, iN, iC]
          refine a1.app l1 (by decide) rfl (by omega) (by simp only [maxLen]; omega) fun v2 h2 a2 l2 sd2 => ?_
          try simp only [s3, s5, slcL_lo hk9, pm, pmW, pmB, ft, ↓reduceIte, reduceCtorEq, nE, nA, nM, nD, nL, iL, iT, iE, iN, iC]
          refine a2.appA l2 (by rw [List.length_take, List.length_drop, List.length_map, hSl]; omega) (by omega) (by simp only [maxLen]; omega) fun v3 h3 a3 l3 sd3 => ?_
          try simp only [s4, hw, pm, pmW, pmB, ft, ↓reduceIte, reduceCtorEq, nE, nA, nM, nD, nL, iL, iT, iE, iN, iC]
          rw [show 0 + k9 + 1 + (i - k9) = i + 1 by omega] at a3
          obtain ⟨pJ, sJ⟩ := ins (.inr (by omega))
          refine next hlt _ _ ⟨⟨S.take k9 ++ c :: S.drop k9, ?_, pJ, sJ⟩, fun e => by omega, l3, by simp [put, s0], by simp [put]⟩
          have a4 : Acc h h3 v3 1 (i + 1) ((S.take k9 ++ c :: S.drop k9).map (.int .i64)) := by
            have e9 : ((S.map (PV.int .i64)).drop k9).take (i - k9) = (S.drop k9).map (.int .i64) := by rw [← List.map_drop]; exact List.take_of_length_le (by simp [hSl])
            rw [e9] at a3
            simpa using a3
          simpa [put] using a4
      · try simp only [s0, s3, s4, s5, hlt, p, slcL_hi hk9, hJl, pm, pmW, pmB, ft, ↓reduceIte, reduceCtorEq, nE, nA, nM, nD, nL, iL, iT, iE, iN, iC]
        refine (Acc.nil h (h'.kill b) 1).appA (m := k9) lk (by rw [List.length_take, List.length_map, hSl]; omega) (by omega) (by simp only [maxLen]; omega) fun v1 h1 a1 l1 sd1 => ?_
        try simp only [s0, s4, hx, hlt, pm, pmW, pmB, ft, ↓reduceIte, reduceCtorEq, nE, nA, nM, nD, nL, iL, iT, iE, iN, iC]
        refine a1.app l1 (by decide) rfl (by omega) (by simp only [maxLen]; omega) fun v2 h2 a2 l2 sd2 => ?_
        try simp only [s3, s5, slcL_lo hk9, pm, pmW, pmB, ft, ↓reduceIte, reduceCtorEq, nE, nA, nM, nD, nL, iL, iT, iE, iN, iC]
        refine a2.appA l2 (by rw [List.length_take, List.length_drop, List.length_map, hSl]; omega) (by omega) (by simp only [maxLen]; omega) fun v3 h3 a3 l3 sd3 => ?_
        try simp only [s4, hw, pm, pmW, pmB, ft, ↓reduceIte, reduceCtorEq, nE, nA, nM, nD, nL, iL, iT, iE, iN, iC]
        rw [show 0 + k9 + 1 + (i - k9) = i + 1 by omega] at a3
        obtain ⟨pJ, sJ⟩ := ins (.inl (by omega))
        refine next hlt _ _ ⟨⟨S.take k9 ++ c :: S.drop k9, ?_, pJ, sJ⟩, fun e => by omega, l3, by simp [put, s0], by simp [put]⟩
        have a4 : Acc h h3 v3 1 (i + 1) ((S.take k9 ++ c :: S.drop k9).map (.int .i64)) := by
          have e9 : ((S.map (PV.int .i64)).drop k9).take (i - k9) = (S.drop k9).map (.int .i64) := by rw [← List.map_drop]; exact List.take_of_length_le (by simp [hSl])
          rw [e9] at a3
          simpa using a3
        simpa [put] using a4
  · have e : i = B.length := by omega
    subst e
    have hnl := Nat.lt_irrefl B.length
    try simp only [s0, s4, hnl, pm, pmW, pmB, ft, ↓reduceIte, reduceCtorEq, nE, nA, nM, nD, nL, iL, iT, iE, iN, iC]
    refine a.fin lh ?_
    rw [olds_ints]
    rw [List.take_length] at pS
    rw [asc_ms pS sS]
    exact k
theorem sortedN (h : Heap) {K : PV → Heap → Prop} (k : K (.list true 1 0 []) h) : CanP Tryz.prog 60 [.nils] h K := by
  refine e60 rfl ?_
  try simp only [c60, r60_0, r60_1, r60_2, r60_3, r60_4, r60_5, r60_6, r60_7, r60_8, r60_9, pm, pmW, pmB, ft, ↓reduceIte, reduceCtorEq, nE, nA, nM, nD, nL, iL, iT, iE, iN, iC]
  refine pwp_fall (fun m σ h9 => h9 = h ∧ σ 0 = .nils ∧ σ 3 = .nils ∧ σ 4 = .int .i64 0) 0 ⟨rfl, rfl, rfl, rfl⟩ ?_
  rintro m σ h9 K9 ⟨rfl, s0, s3, s4⟩ -
  try simp only [s0, s3, s4, pm, pmW, pmB, ft, ↓reduceIte, reduceCtorEq, nE, nA, nM, nD, nL, iL, iT, iE, iN, iC]
  exact (Acc.nil _ _ 1).fin (Heap.le_refl _) (by simpa [olds] using k)
theorem OpenR (fr : Bool) (C : List Int) (hC : C.length ≤ 500000) (h : Heap) {K : PV → Heap → Prop} (k : K (.list true 1 (openT C).length ((openT C).map (.int .i64))) h) :
    CanP Tryz.prog 27 [.list fr 1 C.length (C.map (.int .i64))] h K := by
  obtain ⟨ok1, ok2⟩ := wkT_ok C
  refine e27 rfl ?_
  try simp only [c27, r27_0, r27_1, r27_2, pm, pmW, pmB, ft, ↓reduceIte, reduceCtorEq, nE, nA, nM, nD, nL, iL, iT, iE, iN, iC]
  refine walkR _ C (by omega) _ ?_
  have gp := gk_perm C C.length
  have gl := gk_len C C.length
  rw [show wk C C.length = wkT C from rfl] at gp gl
  rw [openT, ← ms_perm (gp.append_left (wkT C).st)] at k
  generalize gk C C.length = G at *
  generalize wkT C = w at *
  try simp only [pm, pmW, pmB, ft, ↓reduceIte, reduceCtorEq, nE, nA, nM, nD, nL, iL, iT, iE, iN, iC]
  refine (Acc.nil h h 1).appA (m := w.st.length) (new := w.st.map (.int .i64)) (Heap.le_refl _) (by simp) (by omega) (by simp only [maxLen]; omega) fun v1 h1 a1 l1 sd1 => ?_
  try simp only [pm, pmW, pmB, ft, ↓reduceIte, reduceCtorEq, nE, nA, nM, nD, nL, iL, iT, iE, iN, iC]
  refine a1.appA (m := G.length) (new := G.map (.int .i64)) l1 (by simp) (by omega) (by simp only [maxLen]; omega) fun v2 h2 a2 l2 sd2 => ?_
  have a3 : Acc h h2 v2 1 (w.st ++ G).length ((w.st ++ G).map (.int .i64)) := by simpa using a2
  have hXl : (w.st ++ G).length ≤ 1000000 := by rw [List.length_append]; omega
  generalize w.st ++ G = X at *
  rcases a3 with ⟨rfl, e0, _⟩ | ⟨b, rfl, hn, hb, hbl⟩
  · have : X = [] := List.length_eq_zero_iff.1 e0
    subst this
    try simp only [pm, pmW, pmB, ft, ↓reduceIte, reduceCtorEq, nE, nA, nM, nD, nL, iL, iT, iE, iN, iC]
    refine sortedN _ ?_
    try simp only [pm, pmW, pmB, ft, ↓reduceIte, reduceCtorEq, nE, nA, nM, nD, nL, iL, iT, iE, iN, iC]
    refine finK_le l2 ?_
    simpa using k
  · have hJl : X.length ≤ (X.map (PV.int .i64)).length := by simp
    have hJt : (X.map (PV.int .i64)).take X.length = X.map (PV.int .i64) := List.take_of_length_le (by simp)
    try simp only [hb, hJl, hJt, pm, pmW, pmB, ft, ↓reduceIte, reduceCtorEq, nE, nA, nM, nD, nL, iL, iT, iE, iN, iC]
    refine sortedR _ X hXl _ ?_
    try simp only [pm, pmW, pmB, ft, ↓reduceIte, reduceCtorEq, nE, nA, nM, nD, nL, iL, iT, iE, iN, iC]
    refine finK_le (Heap.le_kill l2 hn) ?_
    rw [List.length_mergeSort] at k
    exact k
theorem LooseR (fr : Bool) (C : List Int) (hC : C.length ≤ 1000000) (h : Heap) {K : PV → Heap → Prop} (k : K (.list true 1 (wkT C).ls.length ((wkT C).ls.map (.int .i64))) h) :
    CanP Tryz.prog 28 [.list fr 1 C.length (C.map (.int .i64))] h K := by
  refine e28 rfl ?_
  try simp only [c28, r28_0, r28_1, r28_2, pm, pmW, pmB, ft, ↓reduceIte, reduceCtorEq, nE, nA, nM, nD, nL, iL, iT, iE, iN, iC]
  refine walkR _ C hC _ ?_
  try simp only [pm, pmW, pmB, ft, ↓reduceIte, reduceCtorEq, nE, nA, nM, nD, nL, iL, iT, iE, iN, iC]
  exact finK_rf k
end Go.Proofs.YtcgaphmndnmfdaaGreat
