/-
  What is open, what is loose, and what ends it (balance.Open, Loose, Close).
  Conditions: rows of at most a million.
-/
import Derived.Test.YtcgaphmndnmfdaaBalA
import Derived.Test.YtcgaphmndnmfdaaBackI
import Derived.Test.YtcgaphmndnmfdaaIntsCat
import Derived.Test.YtcgaphmndnmfdaaRf
import Derived.Test.YtcgaphmndnmfdaaLsort
import Derived.Test.YtcgaphmndnmfdaaParaA
namespace Go.Proofs.Ytcgaphmndnmfdaa
open Go.Pm
set_option maxRecDepth 100000
set_option linter.unusedSimpArgs false
set_option linter.unusedVariables false

theorem wkT_ok (C : List Int) : Wok C C.length (wkT C) := wk_ok C C.length (Nat.le_refl _)
def endC (C : List Int) (x : Int) : Int := if isoB C x then 8297 else 8236
def endsT (C : List Int) : List Int := (wkT C).st.reverse.map (endC C)
theorem oldS_at (σ : Sl) (t : Nat) : oldS σ t = (σ t).old := rfl
theorem Loose (fr : Bool) (C : List Int) (hC : C.length ≤ 1000000) (h : Heap) {K : PV → Heap → Prop} (k : ∀ f, K (.list f 1 (wkT C).ls.length ((wkT C).ls.map (.int .i64))) h) :
    CanP Try.prog 26 [.list fr 1 C.length (C.map (.int .i64))] h K := by
  refine e26 rfl ?_
  try simp only [c26, r26_0, r26_1, pmZ, Int.cast_ofNat_Int, beq_self_eq_true, Heap.kill_kset, pmC, pmE, pmS, pmV, pmK, pmQ, pmL, pmX, pmF, pmO, pmA, pmR, pmW, pmB, Option.isSome_some, ft, olds_ints, olds_bools, ↓reduceIte, Nat.reduceEqDiff, reduceCtorEq, Nat.reduceAdd, Nat.reduceMul, Nat.reduceLeDiff, Nat.reduceLT, Int.reduceLE, Int.reduceLT, Int.reduceEq, Int.reduceToNat, ne_eq]
  refine walked _ C hC _ ?_
  try simp only [walkV, pmZ, Int.cast_ofNat_Int, beq_self_eq_true, Heap.kill_kset, pmC, pmE, pmS, pmV, pmK, pmQ, pmL, pmX, pmF, pmO, pmA, pmR, pmW, pmB, Option.isSome_some, ft, olds_ints, olds_bools, ↓reduceIte, Nat.reduceEqDiff, reduceCtorEq, Nat.reduceAdd, Nat.reduceMul, Nat.reduceLeDiff, Nat.reduceLT, Int.reduceLE, Int.reduceLT, Int.reduceEq, Int.reduceToNat, ne_eq]
  exact finK_rf (k _)
theorem LooseT (fr : Bool) (C : List Int) (hC : C.length ≤ 1000000) (h : Heap) {K : PV → Heap → Prop} (k : K (.list true 1 (wkT C).ls.length ((wkT C).ls.map (.int .i64))) h) :
    CanP Try.prog 26 [.list fr 1 C.length (C.map (.int .i64))] h K := by
  refine e26 rfl ?_
  try simp only [c26, r26_0, r26_1, pmZ, Int.cast_ofNat_Int, beq_self_eq_true, Heap.kill_kset, pmC, pmE, pmS, pmV, pmK, pmQ, pmL, pmX, pmF, pmO, pmA, pmR, pmW, pmB, Option.isSome_some, ft, olds_ints, olds_bools, ↓reduceIte, Nat.reduceEqDiff, reduceCtorEq, Nat.reduceAdd, Nat.reduceMul, Nat.reduceLeDiff, Nat.reduceLT, Int.reduceLE, Int.reduceLT, Int.reduceEq, Int.reduceToNat, ne_eq]
  refine walked _ C hC _ ?_
  try simp only [walkV, pmZ, Int.cast_ofNat_Int, beq_self_eq_true, Heap.kill_kset, pmC, pmE, pmS, pmV, pmK, pmQ, pmL, pmX, pmF, pmO, pmA, pmR, pmW, pmB, Option.isSome_some, ft, olds_ints, olds_bools, ↓reduceIte, Nat.reduceEqDiff, reduceCtorEq, Nat.reduceAdd, Nat.reduceMul, Nat.reduceLeDiff, Nat.reduceLT, Int.reduceLE, Int.reduceLT, Int.reduceEq, Int.reduceToNat, ne_eq]
  exact finK_rf k
def openT (C : List Int) : List Int := ((wkT C).st ++ (wkT C).lo).mergeSort fun x y => decide (x ≤ y)
theorem SortNil (h : Heap) {K : PV → Heap → Prop} (k : K (.tup []) h) : CanP Try.prog 43 [.nils] h K :=
  ⟨enterSort, fun w cargs hw ha => by
    simp only [TR, VR] at ha
    obtain ⟨v, vs', h1, rfl, rfl⟩ := ha
    obtain rfl : cargs = #[.slice none 0 0] := by
      apply Array.toList_inj.1; exact h1
    refine (sortNone none 0 w).mono ?_
    rintro e w' ⟨rfl, rfl⟩
    exact ⟨.tup [], _, _, rfl, St.refl _ _, hw, by simp [VR, TR], k⟩⟩
theorem Open (fr : Bool) (C : List Int) (hC : C.length ≤ 1000000) (h : Heap) {K : PV → Heap → Prop} (k : K (.list true 1 (openT C).length ((openT C).map (.int .i64))) h) :
    CanP Try.prog 25 [.list fr 1 C.length (C.map (.int .i64))] h K := by
  obtain ⟨ok1, ok2⟩ := wkT_ok C
  refine e25 rfl ?_
  try simp only [c25, r25_0, r25_1, r25_2, r25_3, r25_4, pmZ, Int.cast_ofNat_Int, beq_self_eq_true, Heap.kill_kset, pmC, pmE, pmS, pmV, pmK, pmQ, pmL, pmX, pmF, pmO, pmA, pmR, pmW, pmB, Option.isSome_some, ft, olds_ints, olds_bools, ↓reduceIte, Nat.reduceEqDiff, reduceCtorEq, Nat.reduceAdd, Nat.reduceMul, Nat.reduceLeDiff, Nat.reduceLT, Int.reduceLE, Int.reduceLT, Int.reduceEq, Int.reduceToNat, ne_eq]
  refine walked _ C hC _ ?_
  rw [openT] at k
  generalize wkT C = w at *
  try simp only [walkV, pmZ, Int.cast_ofNat_Int, beq_self_eq_true, Heap.kill_kset, pmC, pmE, pmS, pmV, pmK, pmQ, pmL, pmX, pmF, pmO, pmA, pmR, pmW, pmB, Option.isSome_some, ft, olds_ints, olds_bools, ↓reduceIte, Nat.reduceEqDiff, reduceCtorEq, Nat.reduceAdd, Nat.reduceMul, Nat.reduceLeDiff, Nat.reduceLT, Int.reduceLE, Int.reduceLT, Int.reduceEq, Int.reduceToNat, ne_eq]
  obtain ⟨b0, hb0⟩ := h.fresh
  refine ⟨fun v h' => Acc h h' v 1 (w.st ++ w.lo).length ((w.st ++ w.lo).map (.int .i64)) ∧ h.le h', ⟨_, _, Acc.buf hb0 (Heap.set_same _ _ _) (by simp), Heap.le_set (Heap.le_refl _) hb0⟩, ?_, ?_⟩
  · refine ConcatB _ [_, _] [w.st, w.lo] (by simp; omega) (by simp) _ ⟨.inr (.inl ⟨_, rfl⟩), .inr (.inl ⟨_, rfl⟩), trivial⟩ fun v h' a l => ?_
    have e : [w.st, w.lo].flatten = w.st ++ w.lo := by simp
    rw [e] at a
    exact ⟨a, l⟩
  rintro v h' ⟨a, l⟩
  generalize hX : w.st ++ w.lo = X at *
  have hXl : X.length ≤ 1000000 := by rw [← hX, List.length_append]; omega
  rcases a with ⟨rfl, e0, _⟩ | ⟨b, rfl, hn, hb, hbl⟩
  · have : X = [] := List.length_eq_zero_iff.1 e0
    subst this
    try simp only [pmZ, Int.cast_ofNat_Int, beq_self_eq_true, Heap.kill_kset, pmC, pmE, pmS, pmV, pmK, pmQ, pmL, pmX, pmF, pmO, pmA, pmR, pmW, pmB, Option.isSome_some, ft, olds_ints, olds_bools, ↓reduceIte, Nat.reduceEqDiff, reduceCtorEq, Nat.reduceAdd, Nat.reduceMul, Nat.reduceLeDiff, Nat.reduceLT, Int.reduceLE, Int.reduceLT, Int.reduceEq, Int.reduceToNat, ne_eq]
    refine SortNil _ ?_
    try simp only [pmZ, Int.cast_ofNat_Int, beq_self_eq_true, Heap.kill_kset, pmC, pmE, pmS, pmV, pmK, pmQ, pmL, pmX, pmF, pmO, pmA, pmR, pmW, pmB, Option.isSome_some, ft, olds_ints, olds_bools, ↓reduceIte, Nat.reduceEqDiff, reduceCtorEq, Nat.reduceAdd, Nat.reduceMul, Nat.reduceLeDiff, Nat.reduceLT, Int.reduceLE, Int.reduceLT, Int.reduceEq, Int.reduceToNat, ne_eq]
    exact (Acc.nil _ _ 1).fin l (by simpa [olds] using k)
  · try simp only [pmZ, Int.cast_ofNat_Int, beq_self_eq_true, Heap.kill_kset, pmC, pmE, pmS, pmV, pmK, pmQ, pmL, pmX, pmF, pmO, pmA, pmR, pmW, pmB, Option.isSome_some, ft, olds_ints, olds_bools, ↓reduceIte, Nat.reduceEqDiff, reduceCtorEq, Nat.reduceAdd, Nat.reduceMul, Nat.reduceLeDiff, Nat.reduceLT, Int.reduceLE, Int.reduceLT, Int.reduceEq, Int.reduceToNat, ne_eq]
    refine SortI X hXl b _ hb ?_
    try simp only [pmZ, Int.cast_ofNat_Int, beq_self_eq_true, Heap.kill_kset, pmC, pmE, pmS, pmV, pmK, pmQ, pmL, pmX, pmF, pmO, pmA, pmR, pmW, pmB, Option.isSome_some, ft, olds_ints, olds_bools, ↓reduceIte, Nat.reduceEqDiff, reduceCtorEq, Nat.reduceAdd, Nat.reduceMul, Nat.reduceLeDiff, Nat.reduceLT, Int.reduceLE, Int.reduceLT, Int.reduceEq, Int.reduceToNat, ne_eq]
    rw [List.length_mergeSort] at k
    refine Acc.fin (cs := (X.mergeSort fun x y => decide (x ≤ y)).map (.int .i64)) (Acc.buf hn (Heap.set_same _ _ _) (by simp)) (Heap.le_set l hn) ?_
    rw [olds_ints]; exact k
end Go.Proofs.Ytcgaphmndnmfdaa

/-
  The document's walk, and what it says of what is open, loose, and ends it.
  Conditions: rows of at most a million.
-/
namespace Go.Proofs.Ytcgaphmndnmfdaa
open Go.Pm
set_option maxRecDepth 100000
set_option linter.unusedSimpArgs false
set_option linter.unusedVariables false

theorem popR_app (C : List Int) (x : Int) (R : List Int) (hx : isoB C x = true) : ∀ L : List Int, (∀ y ∈ L, isoB C y = false) → popR C (L ++ x :: R) = (L, R)
  | [], _ => by
    have : opensT (atW C x) = true := hx
    simp [popR, this]
  | y :: L, h => by
    have : opensT (atW C y) = false := h y (by simp)
    have ih := popR_app C x R hx L fun z hz => h z (by simp [hz])
    rw [List.cons_append, popR, if_neg (by simp [this]), ih]
/-- What the document's walk took off. -/
def gk (C : List Int) : Nat → List Int
  | 0 => []
  | i + 1 => if (embT (C.getD i default) = true ∨ opensT (C.getD i default) = true) ∨ C.getD i default ≠ 22 ∨ (wk C i).st.any (isoB C) = false then gk C i else gk C i ++ (popR C (wk C i).st.reverse).1.reverse
theorem gk_perm (C : List Int) : ∀ i, (gk C i).Perm (wk C i).lo
  | 0 => List.Perm.refl _
  | i + 1 => by
    have ih := gk_perm C i
    rw [gk, wk, stepW]
    by_cases h1 : embT (C.getD i default) = true ∨ opensT (C.getD i default) = true
    · rw [if_pos (.inl h1), if_pos h1]; exact ih
    · rw [if_neg h1]
      by_cases h2 : C.getD i default = 18
      · rw [if_pos h2, if_pos (.inr (.inl (by omega))), endE]
        split <;> exact ih
      · rw [if_neg h2]
        by_cases h3 : C.getD i default = 22
        · rw [if_pos h3, endI]
          cases h4 : (wk C i).st.any (isoB C)
          · rw [if_pos (.inr (.inr rfl)), if_neg (by simp)]; exact ih
          · rw [if_neg (by rintro (a | a | a); exact h1 a; exact a h3; cases a), if_pos rfl]
            exact ih.append (List.reverse_perm _)
        · rw [if_neg h3, if_pos (.inr (.inl h3))]; exact ih
theorem gk_len (C : List Int) (i : Nat) : (gk C i).length = (wk C i).lo.length := (gk_perm C i).length_eq
/-- What is above the last isolate. -/
theorem top_iso (C : List Int) (st : List Int) (t : Nat) (ht : t ≤ st.length) (hab : ∀ i, t ≤ i → i < st.length → isoB C (st.getD i default) = false) :
    (t = 0 → st.any (isoB C) = false) ∧ (0 < t → isoB C (st.getD (t - 1) default) = true → st.any (isoB C) = true ∧ (popR C st.reverse).1.reverse = st.drop t ∧ (popR C st.reverse).2.reverse = st.take (t - 1)) := by
  refine ⟨fun e => ?_, fun h0 hx => ?_⟩
  · rw [List.any_eq_false]
    intro x hx
    obtain ⟨i, hi, rfl⟩ := List.mem_iff_getElem.1 hx
    have := hab i (by omega) hi
    simpa [List.getD, hi] using this
  · have hlt : t - 1 < st.length := by omega
    have e : st = st.take (t - 1) ++ st.getD (t - 1) default :: st.drop t := by
      have := (List.take_append_drop (t - 1) st).symm
      rw [drop_getD st hlt, show t - 1 + 1 = t by omega] at this
      exact this
    have er : st.reverse = (st.drop t).reverse ++ st.getD (t - 1) default :: (st.take (t - 1)).reverse := by
      have := congrArg List.reverse e
      simpa using this
    have hp := popR_app C (st.getD (t - 1) default) (st.take (t - 1)).reverse hx (st.drop t).reverse fun y hy => by
      rw [List.mem_reverse] at hy
      obtain ⟨i, hi, rfl⟩ := List.mem_iff_getElem.1 hy
      rw [List.length_drop] at hi
      have := hab (t + i) (by omega) (by omega)
      simpa [List.getD, show t + i < st.length by omega] using this
    rw [← er] at hp
    rw [hp]
    refine ⟨?_, by simp, by simp⟩
    rw [List.any_eq_true]
    exact ⟨_, get_mem st hlt, hx⟩
theorem emb_iso {C : List Int} {x : Int} (h : embT (atW C x) = true ∨ opensT (atW C x) = true) : embT (atW C x) = !isoB C x := by
  rw [isoB]
  generalize atW C x = c at *
  have e1 : embT c = true ↔ c = 14 ∨ c = 15 ∨ c = 16 ∨ c = 17 := by simp [embT, embL]
  have e2 : opensT c = true ↔ c = 19 ∨ c = 20 ∨ c = 21 := by simp [opensT, opensL]
  cases a : embT c <;> cases b : opensT c
  · simp [a, b] at h
  · rfl
  · rfl
  · have := e1.1 a; have := e2.1 b; omega
end Go.Proofs.Ytcgaphmndnmfdaa

/-
  The document's walk.
  Conditions: rows of at most a million.
-/
namespace Go.Proofs.Ytcgaphmndnmfdaa
open Go.Pm
set_option maxRecDepth 100000
set_option linter.unusedSimpArgs false
set_option linter.unusedVariables false

theorem slcB_loN {k : Option Nat} {E b off n : Nat} {K : Kt} {h : Heap} (h0 : 0 < n) : slcK k (some E) (.buf b E off n) (some (.int .i64 (n : Int))) none K h = K (.list true E 0 []) h := by
  have := cut_lo (n := n) (j := n) (Nat.le_refl _)
  simp only [slcK, Option.isSome_some, true_and]
  rw [ex_cut this]
  have : ¬ n = 0 := by omega
  simp [this]
theorem stk_at {h h' : Heap} {b : Nat} {l : List Int} {ds : List PV} (hd : l.map (PV.int .i64) = ds.take (l.length * 1)) {i : Nat} (hi : i < l.length) : ds[i]? = some (.int .i64 (l.getD i default)) := by
  have := getm (PV.int .i64) l hi
  rw [hd, List.getElem?_take, if_pos (by omega)] at this
  exact this
end Go.Proofs.Ytcgaphmndnmfdaa

/-
  What the document says is open, loose, and ends it.
  Conditions: rows of at most a million.
-/
namespace Go.Proofs.Ytcgaphmndnmfdaa
open Go.Pm
set_option maxRecDepth 100000
set_option linter.unusedSimpArgs false
set_option linter.unusedVariables false

abbrev Asc (l : List Int) : Prop := l.Pairwise fun x y => x ≤ y
theorem ins_asc {S : List Int} (s : Asc S) (x : Int) {k : Nat} (hk : k ≤ S.length) (h1 : ∀ p, p < k → S.getD p default < x) (h2 : k = S.length ∨ x ≤ S.getD k default) : Asc (S.take k ++ x :: S.drop k) := by
  have hd : ∀ y ∈ S.drop k, x ≤ y := fun y hy => by
    rcases h2 with e | e
    · rw [e, List.drop_length] at hy; cases hy
    · rcases Nat.lt_or_ge k S.length with hlt | hge
      · have s' : Asc (S.drop k) := s.sublist (List.drop_sublist _ _)
        rw [drop_getD S hlt] at s' hy
        rcases List.mem_cons.1 hy with rfl | hy
        · exact e
        · have := (List.pairwise_cons.1 s').1 y hy
          omega
      · rw [List.drop_eq_nil_of_le hge] at hy; cases hy
  have ht : ∀ y ∈ S.take k, y < x := fun y hy => by
    obtain ⟨p, hp, hpl, rfl⟩ := mem_take_get hy
    exact h1 p hp
  refine List.pairwise_append.2 ⟨s.sublist (List.take_sublist _ _), List.pairwise_cons.2 ⟨hd, s.sublist (List.drop_sublist _ _)⟩, fun y hy z hz => ?_⟩
  have a := ht y hy
  rcases List.mem_cons.1 hz with rfl | hz
  · omega
  · have := hd z hz; omega
theorem ins_perm (S : List Int) (x : Int) (k : Nat) : (S.take k ++ x :: S.drop k).Perm (S ++ [x]) := by
  have a : (S.take k ++ x :: S.drop k).Perm (x :: (S.take k ++ S.drop k)) := List.perm_middle
  rw [List.take_append_drop] at a
  exact a.trans (List.perm_append_singleton x S).symm
theorem asc_ms {X S : List Int} (p : S.Perm X) (s : Asc S) : S = X.mergeSort fun x y => decide (x ≤ y) := by
  have tr : ∀ a b c : Int, decide (a ≤ b) = true → decide (b ≤ c) = true → decide (a ≤ c) = true := fun a b c h1 h2 => by simp at *; omega
  have to : ∀ a b : Int, (decide (a ≤ b) || decide (b ≤ a)) = true := fun a b => by simp; omega
  refine List.Perm.eq_of_pairwise (le := fun x y => decide (x ≤ y) = true) (fun a b _ _ h1 h2 => by simp at h1 h2; omega) (s.imp fun {a b} q => by simpa using q) (List.pairwise_mergeSort tr to X) (p.trans (List.mergeSort_perm X _).symm)
theorem ms_perm {X Y : List Int} (h : X.Perm Y) : (X.mergeSort fun x y => decide (x ≤ y)) = Y.mergeSort fun x y => decide (x ≤ y) := by
  have tr : ∀ a b c : Int, decide (a ≤ b) = true → decide (b ≤ c) = true → decide (a ≤ c) = true := fun a b c h1 h2 => by simp at *; omega
  have to : ∀ a b : Int, (decide (a ≤ b) || decide (b ≤ a)) = true := fun a b => by simp; omega
  refine asc_ms ((List.mergeSort_perm X _).trans h) ((List.pairwise_mergeSort tr to X).imp fun {a b} q => by simpa using q)
theorem slcN_lo0 {k : Option Nat} {E : Nat} {K : Kt} {h : Heap} : slcK k (some E) .nils (some (.int .i64 0)) none K h = K .nils h := by
  have := cut_lo (n := 0) (j := 0) (Nat.le_refl _)
  simp only [slcK, Option.isSome_some, true_and]
  rw [show ((0 : Int)) = ((0 : Nat) : Int) from rfl, ex_cut this]
end Go.Proofs.Ytcgaphmndnmfdaa
