/-
  A text in which all that begins ends: the package's walk (body, evened, Even, Level).
  Conditions: a text of at most a hundred thousand codes.
-/
import Derived.Test.YtcgaphmndnmfdaaGreatBalB
import Derived.Test.YtcgaphmndnmfdaaGreatBal9
import Derived.Test.YtcgaphmndnmfdaaGreatIntsBin
import Derived.Test.YtcgaphmndnmfdaaGreatProps3
namespace Go.Proofs.YtcgaphmndnmfdaaGreat
open Go.Pm
open Nat renaming reduceEqDiff → nE, reduceAdd → nA, reduceMul → nM, reduceLeDiff → nD, reduceLT → nL
open Int renaming reduceLE → iL, reduceLT → iT, reduceEq → iE, reduceToNat → iN, cast_ofNat_Int → iC
set_option maxRecDepth 100000
set_option linter.unusedSimpArgs false
set_option linter.unusedVariables false

theorem body_ (f1 f2 : Bool) (X : List Int) (hl : X.length ≤ 1000000) (h : Heap) {K : PV → Heap → Prop} (k : K (.int .i64 (bodyT X)) h) :
    CanP Tryz.prog 108 [.list f1 1 X.length (X.map (.int .i64)), .list f2 1 X.length ((cls X).map (.int .i64))] h K := by
  refine e108 rfl ?_
  try simp only [c108, r108_0, r108_1, r108_2, r108_3, r108_4, r108_5, r108_6, pm, pmW, pmB, ft, ↓reduceIte, reduceCtorEq, nE, nA, nM, nD, nL, iL, iT, iE, iN, iC]
  rw [bodyT] at k
  by_cases h0 : X.length = 0
  · rw [if_pos (.inl h0)] at k
    have h0' : (X.length : Int) = 0 := by omega
    have hd : decide ((X.length : Int) = 0) = true := decide_eq_true h0'
    try simp only [hd, h0', pm, pmW, pmB, ft, ↓reduceIte, reduceCtorEq, nE, nA, nM, nD, nL, iL, iT, iE, iN, iC]
    rw [h0'] at k
    exact finK_rf k
  · have h0' : ¬ (X.length : Int) = 0 := by omega
    have hd : decide ((X.length : Int) = 0) = false := decide_eq_false h0'
    have hw1 : IntKind.i64.wrap ((X.length : Int) - 1) = ((X.length - 1 : Nat) : Int) := by rw [wrap_in (by omega) (by omega)]; omega
    have hlt1 : X.length - 1 < X.length := by omega
    have hx1 := getm (PV.int .i64) X hlt1
    have hc1 := getm (PV.int .i64) (cls X) (i := X.length - 1) (by rw [cls_len]; omega)
    rw [cls_get X hlt1] at hc1
    by_cases h1 : classT (X.getD (X.length - 1) default) = 10
    · have hd1 : decide (classT (X.getD (X.length - 1) default) = 10) = true := decide_eq_true h1
      rw [if_neg (by rintro (a | a); exact h0 a; exact a h1)] at k
      by_cases h2 : 1 < X.length
      · have h2' : (1 : Int) < (X.length : Int) := by omega
        have hw2 : IntKind.i64.wrap ((X.length : Int) - 2) = ((X.length - 2 : Nat) : Int) := by rw [wrap_in (by omega) (by omega)]; omega
        have hlt2 : X.length - 2 < X.length := by omega
        have hx2 := getm (PV.int .i64) X hlt2
        cases h3 : decide (X.getD (X.length - 2) default = 13)
        · rw [if_neg (fun a => of_decide_eq_false h3 a.2.1)] at k
          try simp only [hd, h0', hw1, hlt1, hc1, h1, hd1, h2', hw2, hlt2, hx2, h3, pm, pmW, pmB, ft, ↓reduceIte, reduceCtorEq, nE, nA, nM, nD, nL, iL, iT, iE, iN, iC]
          exact finK_rf k
        · cases h4 : decide (X.getD (X.length - 1) default = 10)
          · rw [if_neg (fun a => of_decide_eq_false h4 a.2.2)] at k
            try simp only [hd, h0', hw1, hlt1, hc1, h1, hd1, h2', hw2, hlt2, hx2, h3, hx1, h4, pm, pmW, pmB, ft, ↓reduceIte, reduceCtorEq, nE, nA, nM, nD, nL, iL, iT, iE, iN, iC]
            exact finK_rf k
          · rw [if_pos ⟨h2, by simpa using h3, by simpa using h4⟩] at k
            try simp only [hd, h0', hw1, hlt1, hc1, h1, hd1, h2', hw2, hlt2, hx2, h3, hx1, h4, pm, pmW, pmB, ft, ↓reduceIte, reduceCtorEq, nE, nA, nM, nD, nL, iL, iT, iE, iN, iC]
            exact finK_rf k
      · have h2' : ¬ (1 : Int) < (X.length : Int) := by omega
        rw [if_neg (by omega)] at k
        try simp only [hd, h0', hw1, hlt1, hc1, h1, hd1, h2', pm, pmW, pmB, ft, ↓reduceIte, reduceCtorEq, nE, nA, nM, nD, nL, iL, iT, iE, iN, iC]
        exact finK_rf k
    · have hd1 : decide (classT (X.getD (X.length - 1) default) = 10) = false := decide_eq_false h1
      rw [if_pos (.inr h1)] at k
      try simp only [hd, h0', hw1, hlt1, hc1, h1, hd1, pm, pmW, pmB, ft, ↓reduceIte, reduceCtorEq, nE, nA, nM, nD, nL, iL, iT, iE, iN, iC]
      exact finK_rf k
/-! ### What stays -/
theorem ls_asc (C : List Int) : ∀ i, i ≤ C.length → (wk C i).ls.Pairwise (· < ·) ∧ ∀ x ∈ (wk C i).ls, 0 ≤ x ∧ x < (i : Int)
  | 0, _ => ⟨List.Pairwise.nil, fun x h => (nomatch h)⟩
  | i + 1, hi => by
    obtain ⟨h1, h2⟩ := ls_asc C i (by omega)
    have add : ((wk C i).ls ++ [(i : Int)]).Pairwise (· < ·) ∧ ∀ x ∈ (wk C i).ls ++ [(i : Int)], 0 ≤ x ∧ x < ((i + 1 : Nat) : Int) := by
      refine ⟨List.pairwise_append.2 ⟨h1, List.pairwise_singleton _ _, fun x hx y hy => ?_⟩, fun x hx => ?_⟩
      · rw [List.mem_singleton.1 hy]; exact (h2 x hx).2
      · rcases List.mem_append.1 hx with q | q
        · have := h2 x q; omega
        · rw [List.mem_singleton.1 q]; omega
    have keep : (wk C i).ls.Pairwise (· < ·) ∧ ∀ x ∈ (wk C i).ls, 0 ≤ x ∧ x < ((i + 1 : Nat) : Int) := ⟨h1, fun x hx => by have := h2 x hx; omega⟩
    rw [wk, stepW]
    split
    · exact keep
    · split
      · rw [endE]; split
        · exact keep
        · exact add
      · split
        · rw [endI]; split
          · exact keep
          · exact add
        · exact keep
theorem asc_low {L : List Int} (hs : L.Pairwise (· < ·)) {x : Int} {p : Nat} (hp : Low L x p) : decide (p < L.length ∧ L.getD p default = x) = decide (x ∈ L) := by
  obtain ⟨h1, h2, h3⟩ := hp
  rw [decide_eq_decide]
  constructor
  · rintro ⟨a, b⟩
    rw [← b]; exact get_mem L a
  · intro hx
    obtain ⟨q, hq, e⟩ := List.mem_iff_getElem.1 hx
    have eq : L.getD q default = x := by simpa [List.getD, hq] using e
    have hpq : p ≤ q := by
      rcases Nat.lt_or_ge q p with g | g
      · have := h2 q g; omega
      · exact g
    refine ⟨by omega, ?_⟩
    have a := h3 p (Nat.le_refl _) (by omega)
    by_cases e2 : p = q
    · rw [e2]; exact eq
    · have : L.getD p default < L.getD q default := by
        have hpl : p < L.length := by omega
        have := List.pairwise_iff_getElem.1 hs p q hpl hq (by omega)
        simpa [List.getD, hpl, hq] using this
      omega
theorem asc_get {L : List Int} (hs : L.Pairwise (· < ·)) : ∀ i j, i ≤ j → j < L.length → L.getD i default ≤ L.getD j default := fun i j h1 h2 => by
  by_cases e : i = j
  · rw [e]; omega
  · have := List.pairwise_iff_getElem.1 hs i j (by omega) h2 (by omega)
    have hi : i < L.length := by omega
    have a : L.getD i default = L[i] := by simp [List.getD, hi]
    have b : L.getD j default = L[j] := by simp [List.getD, h2]
    rw [a, b]; omega
theorem stays_ (f1 f2 f f3 g : Bool) (X : List Int) (hl : X.length ≤ 1000000) (w : W3) (hs : w.ls.Pairwise (· < ·)) (hwl : w.ls.length ≤ 1000000) (C : List Int) (lo n : Nat) (hn : lo + n ≤ X.length) (h : Heap) {K : PV → Heap → Prop}
    (k : K (.list true 1 (sty X w.ls lo n).length ((sty X w.ls lo n).map (.int .i64))) h) :
    CanP Tryz.prog 109 [.int .i64 lo, .int .i64 ((lo + n : Nat) : Int), .fptr f1 [walkV f g C w] 0, .fptr f2 [.list f3 1 X.length (X.map (.int .i64))] 0] h K := by
  refine e109 rfl ?_
  try simp only [c109, r109_0, r109_1, r109_2, r109_3, r109_4, r109_5, r109_6, r109_7, r109_8, old_walkV, walkV, olds_ints, pm, pmW, pmB, ft, ↓reduceIte, reduceCtorEq, nE, nA, nM, nD, nL, iL, iT, iE, iN, iC]
  refine pwp_up n (fun i σ h' => Acc h h' (σ 7) 1 (sty X w.ls lo i).length ((sty X w.ls lo i).map (.int .i64)) ∧ h.le h' ∧ σ 1 = .int .i64 ((lo + n : Nat) : Int) ∧ σ 2 = .fptr false [walkV false false C w] 0 ∧ σ 3 = .fptr false [.list false 1 X.length (X.map (.int .i64))] 0 ∧ σ 8 = .int .i64 ((lo + i : Nat) : Int)) ?_ ?_
  · exact ⟨Acc.nil _ _ _, Heap.le_refl _, rfl, by simp [put, slots0, walkV], rfl, rfl⟩
  rintro i σ h' K' hi ⟨a, lh, s1, s2, s3, s8⟩ next
  rcases Nat.lt_or_ge i n with hlt | hge
  · have hw : IntKind.i64.wrap (((lo + i : Nat) : Int) + 1) = ((lo + (i + 1) : Nat) : Int) := by rw [wrap_in (by omega) (by omega)]; omega
    have hlt' : lo + i < lo + n := by omega
    have hlX : lo + i < X.length := by omega
    have hx := getm (PV.int .i64) X hlX
    have hst : sty X w.ls lo (i + 1) = if ((lo + i : Nat) : Int) ∈ w.ls then sty X w.ls lo i else sty X w.ls lo i ++ [X.getD (lo + i) default] := rfl
    have hsl := sty_len X w.ls lo i
    generalize X.getD (lo + i) default = c at *
    rw [walkV] at s2
    try simp only [s1, s2, s3, s8, hlt', pm, pmW, pmB, ft, ↓reduceIte, reduceCtorEq, nE, nA, nM, nD, nL, iL, iT, iE, iN, iC]
    refine BinSearch _ w.ls (by omega) (asc_get hs) _ _ fun p hp => ?_
    rw [asc_low hs hp]
    by_cases hm : ((lo + i : Nat) : Int) ∈ w.ls
    · rw [if_pos hm] at hst
      rw [decide_eq_true hm]
      try simp only [s8, hw, pm, pmW, pmB, ft, ↓reduceIte, reduceCtorEq, nE, nA, nM, nD, nL, iL, iT, iE, iN, iC]
      refine next hlt _ _ ?_
      exact ⟨by rw [hst]; simpa [put] using a, lh, by simp [put, s1], by simp [put, s2, walkV], by simp [put, s3], by simp [put]⟩
    · rw [if_neg hm] at hst
      rw [decide_eq_false hm]
      try simp only [s3, s8, hlX, hx, pm, pmW, pmB, ft, ↓reduceIte, reduceCtorEq, nE, nA, nM, nD, nL, iL, iT, iE, iN, iC]
      refine a.app lh (by decide) rfl (by omega) (by simp only [maxLen]; omega) fun v' h4 a4 l4 sd => ?_
      try simp only [s8, hw, pm, pmW, pmB, ft, ↓reduceIte, reduceCtorEq, nE, nA, nM, nD, nL, iL, iT, iE, iN, iC]
      refine next hlt _ _ ?_
      refine ⟨?_, l4, by simp [put, s1], by simp [put, s2, walkV], by simp [put, s3], by simp [put]⟩
      rw [hst, List.length_append, List.map_append]
      simpa [put] using a4
  · have e : i = n := by omega
    subst e
    have hnl := Nat.lt_irrefl (lo + i)
    try simp only [s1, s8, hnl, pm, pmW, pmB, ft, ↓reduceIte, reduceCtorEq, nE, nA, nM, nD, nL, iL, iT, iE, iN, iC]
    refine a.fin lh ?_
    rw [olds_ints]; exact k
theorem evened_ (f1 f2 : Bool) (X : List Int) (hl : X.length ≤ 300000) (h : Heap) {K : PV → Heap → Prop} (k : K (.list true 1 (evenT X).length ((evenT X).map (.int .i64))) h) :
    CanP Tryz.prog 68 [.list f1 1 X.length (X.map (.int .i64)), .list f2 1 X.length ((cls X).map (.int .i64))] h K := by
  have hcl := cls_len X
  obtain ⟨ok1, ok2⟩ := wkT_ok (cls X)
  obtain ⟨as1, -⟩ := ls_asc (cls X) (cls X).length (Nat.le_refl _)
  rw [show wk (cls X) (cls X).length = wkT (cls X) from rfl] at as1
  refine e68 rfl ?_
  try simp only [c68, r68_0, r68_1, r68_2, r68_3, r68_4, pm, pmW, pmB, ft, ↓reduceIte, reduceCtorEq, nE, nA, nM, nD, nL, iL, iT, iE, iN, iC]
  have hb := body_le X
  have key : ∀ {K : PV → Heap → Prop} {h : Heap} (fr : Bool), K (walkV true true (cls X) (wkT (cls X))) h → CanP Tryz.prog 89 [.list fr 1 X.length ((cls X).map (.int .i64))] h K := fun fr kk => by
    have := walked fr (cls X) (by rw [hcl]; omega) _ kk
    rwa [hcl] at this
  refine key _ ?_
  have hflat : Pm.flat (walkV true true (cls X) (wkT (cls X))) = some [walkV true true (cls X) (wkT (cls X))] := rfl
  try simp only [old_walkV, pm, pmW, pmB, ft, ↓reduceIte, reduceCtorEq, nE, nA, nM, nD, nL, iL, iT, iE, iN, iC]
  intro b hb0
  try simp only [hflat, old_walkV, pm, pmW, pmB, ft, ↓reduceIte, reduceCtorEq, nE, nA, nM, nD, nL, iL, iT, iE, iN, iC]
  refine body_ _ _ X (by omega) _ ?_
  try simp only [pm, pmW, pmB, ft, ↓reduceIte, reduceCtorEq, nE, nA, nM, nD, nL, iL, iT, iE, iN, iC]
  rw [Heap.kill_none hb0]
  have s1 : ∀ (f1 f2 f f3 g : Bool) (h : Heap) (K : PV → Heap → Prop), K (.list true 1 (sty X (wkT (cls X)).ls 0 (bodyT X)).length ((sty X (wkT (cls X)).ls 0 (bodyT X)).map (.int .i64))) h →
      CanP Tryz.prog 109 [.int .i64 0, .int .i64 (bodyT X : Nat), .fptr f1 [walkV f g (cls X) (wkT (cls X))] 0, .fptr f2 [.list f3 1 X.length (X.map (.int .i64))] 0] h K := fun f1 f2 f f3 g h K kk => by
    have := stays_ f1 f2 f f3 g X (by omega) (wkT (cls X)) as1 (by omega) (cls X) 0 (bodyT X) (by omega) h (K := K) kk
    rwa [Nat.zero_add] at this
  have s2 : ∀ (f1 f2 f f3 g : Bool) (h : Heap) (K : PV → Heap → Prop), K (.list true 1 (sty X (wkT (cls X)).ls (bodyT X) (X.length - bodyT X)).length ((sty X (wkT (cls X)).ls (bodyT X) (X.length - bodyT X)).map (.int .i64))) h →
      CanP Tryz.prog 109 [.int .i64 (bodyT X : Nat), .int .i64 X.length, .fptr f1 [walkV f g (cls X) (wkT (cls X))] 0, .fptr f2 [.list f3 1 X.length (X.map (.int .i64))] 0] h K := fun f1 f2 f f3 g h K kk => by
    have := stays_ f1 f2 f f3 g X (by omega) (wkT (cls X)) as1 (by omega) (cls X) (bodyT X) (X.length - bodyT X) (by omega) h (K := K) kk
    rwa [show bodyT X + (X.length - bodyT X) = X.length by omega] at this
  have l1 := sty_len X (wkT (cls X)).ls 0 (bodyT X)
  have l2 := sty_len X (wkT (cls X)).ls (bodyT X) (X.length - bodyT X)
  have l3 : (endsT (cls X)).length = (wkT (cls X)).st.length := by simp [endsT]
  have l4 : (endsT (cls X)).length ≤ X.length := by rw [l3]; omega
  refine ⟨_, s1 _ _ _ _ _ _ _ ⟨rfl, rfl⟩, ?_⟩
  refine ⟨_, ends _ _ (cls X) (by omega) _ ⟨rfl, rfl⟩, ?_⟩
  refine ⟨_, s2 _ _ _ _ _ _ _ ⟨rfl, rfl⟩, ?_⟩
  rw [evenT] at k
  generalize sty X (wkT (cls X)).ls 0 (bodyT X) = A at *
  generalize sty X (wkT (cls X)).ls (bodyT X) (X.length - bodyT X) = B at *
  rw [← l3]
  generalize endsT (cls X) = E at *
  try simp only [pm, pmW, pmB, ft, ↓reduceIte, reduceCtorEq, nE, nA, nM, nD, nL, iL, iT, iE, iN, iC]
  refine ⟨.list true 1 (A ++ E ++ B).length ((A ++ E ++ B).map (.int .i64)), ConcatI _ [_, _, _] [A, E, B] (by simp; omega) (by simp) _ ⟨.inr (.inl ⟨_, rfl⟩), .inr (.inl ⟨_, rfl⟩), .inr (.inl ⟨_, rfl⟩), trivial⟩ ?_, ?_⟩
  · have e : [A, E, B].flatten = A ++ E ++ B := by simp
    rw [e]
    exact ⟨rfl, rfl⟩
  · try simp only [pm, pmW, pmB, ft, ↓reduceIte, reduceCtorEq, nE, nA, nM, nD, nL, iL, iT, iE, iN, iC]
    exact finK_rf k
/-! ### Texts -/
def cutS (X : List Int) (s : Int × Int) : List Int := (X.drop s.1.toNat).take (s.2.toNat - s.1.toNat)
theorem cutS_len (X : List Int) {q : Int × Int} (h0 : 0 ≤ q.1) (h1 : q.1 ≤ q.2) (h2 : q.2 ≤ X.length) : (cutS X q).length = q.2.toNat - q.1.toNat := by
  unfold cutS; rw [List.length_take, List.length_drop]; omega
theorem slcS {k : Option Nat} {fr : Bool} {X : List Int} {q : Int × Int} {K : Kt} {h : Heap} (h0 : 0 ≤ q.1) (h1 : q.1 ≤ q.2) (h2 : q.2 ≤ X.length) : slcK k (some 1) (.list fr 1 X.length (X.map (.int .i64))) (some (.int .i64 q.1)) (some (.int .i64 q.2)) K h = K (.list fr 1 (cutS X q).length ((cutS X q).map (.int .i64))) h := by
  have e1 : q.1 = (q.1.toNat : Int) := by omega
  have e2 : q.2 = (q.2.toNat : Int) := by omega
  rw [e1, e2, slcL_both (by omega) (by omega), cutS_len X h0 h1 h2]
  have : (((X.map (PV.int .i64)).drop (q.1.toNat * 1)).take ((q.2.toNat - q.1.toNat) * 1)) = (cutS X q).map (.int .i64) := by
    unfold cutS; rw [Nat.mul_one, Nat.mul_one, ← List.map_drop, ← List.map_take]
  rw [this]
theorem parts_in : ∀ (l : List (Int × Int)) (e n : Int), 0 ≤ e → partsB e l n = true → (e ≤ n ∧ ∀ s ∈ l, e ≤ s.1 ∧ s.1 < s.2 ∧ s.2 ≤ n)
  | [], e, n, h0, h => by
    simp only [partsB, decide_eq_true_eq] at h
    exact ⟨by omega, fun s hs => (nomatch hs)⟩
  | p :: l, e, n, h0, h => by
    simp only [partsB, Bool.and_eq_true, decide_eq_true_eq] at h
    obtain ⟨h1, ⟨h2, h3⟩, h4⟩ := h
    obtain ⟨i1, i2⟩ := parts_in l p.2 n (by omega) h4
    refine ⟨by omega, fun s hs => ?_⟩
    rcases List.mem_cons.1 hs with rfl | hs
    · exact ⟨by omega, h3, i1⟩
    · have := i2 s hs; omega
theorem split_in (X : List Int) : ∀ s ∈ splitT X, 0 ≤ s.1 ∧ s.1 < s.2 ∧ s.2 ≤ (X.length : Int) := (parts_in _ _ _ (by omega) (split_parts X)).2
theorem cut_le (X : List Int) (s : Int × Int) : (cutS X s).length ≤ X.length := by
  unfold cutS; rw [List.length_take, List.length_drop]; omega
theorem even_len (X : List Int) : (evenT X).length ≤ 2 * X.length := by
  have l1 := sty_len X (wkT (cls X)).ls 0 (bodyT X)
  have l2 := sty_len X (wkT (cls X)).ls (bodyT X) (X.length - bodyT X)
  have hb := body_le X
  obtain ⟨-, ok2⟩ := wkT_ok (cls X)
  rw [cls_len] at ok2
  have l3 : (endsT (cls X)).length = (wkT (cls X)).st.length := by simp [endsT]
  rw [evenT, List.length_append, List.length_append, l3]
  omega
def evenX (X : List Int) : List Int := (splitT X).flatMap fun s => evenT (cutS X s)
theorem flat_bound (X : List Int) : ∀ (L : List (Int × Int)), (L.flatMap fun s => evenT (cutS X s)).length ≤ L.length * (2 * X.length)
  | [] => by simp
  | s :: L => by
    have ih := flat_bound X L
    have a := even_len (cutS X s)
    have b := cut_le X s
    rw [List.flatMap_cons, List.length_append, List.length_cons, Nat.add_mul]
    omega
theorem Even (p : PV) (hp : PR p) (fr : Bool) (X : List Int) (hl : X.length ≤ 1000) (h : Heap) {K : PV → Heap → Prop} (k : K (.list true 1 (evenX X).length ((evenX X).map (.int .i64))) h) :
    CanP Tryz.prog 31 [p, .list fr 1 X.length (X.map (.int .i64))] h K := by
  refine e31 rfl ?_
  have hp' := hp.old
  try simp only [c31, r31_0, r31_1, r31_2, r31_3, r31_4, r31_5, r31_6, r31_7, r31_8, pm, pmW, pmB, ft, ↓reduceIte, reduceCtorEq, nE, nA, nM, nD, nL, iL, iT, iE, iN, iC]
  generalize p.old = p2 at *
  refine paraSplit _ hp' _ X (by omega) _ ?_
  have hin := split_in X
  have hpl := splitT_len X
  rw [evenX] at k
  generalize splitT X = L at *
  try simp only [pm, pmW, pmB, ft, ↓reduceIte, reduceCtorEq, nE, nA, nM, nD, nL, iL, iT, iE, iN, iC]
  refine pwp_up L.length (fun i σ h' => Acc h h' (σ 5) 1 ((L.take i).flatMap fun s => evenT (cutS X s)).length (((L.take i).flatMap fun s => evenT (cutS X s)).map (.int .i64)) ∧ h.le h' ∧ σ 0 = p2 ∧ σ 1 = .list false 1 X.length (X.map (.int .i64)) ∧ (∃ f, σ 11 = .list f 2 L.length (L.flatMap sp)) ∧ σ 12 = .int .i64 L.length ∧ σ 13 = .int .i64 i) ?_ ?_
  · exact ⟨Acc.nil _ _ _, Heap.le_refl _, rfl, rfl, ⟨_, rfl⟩, rfl, rfl⟩
  rintro i σ h' K' hi ⟨a, lh, s0, s1, ⟨f11, s11⟩, s12, s13⟩ next
  rcases Nat.lt_or_ge i L.length with hlt | hge
  · have hw : IntKind.i64.wrap ((i : Int) + 1) = (i : Int) + 1 := wrap_in (by omega) (by omega)
    have hat := flat_at sp 2 sp_len L hlt
    have hx2 : i * 2 + 2 ≤ (L.flatMap sp).length := by rw [flat_length sp 2 sp_len]; omega
    have hq := hin _ (get_mem L hlt)
    have hf := take_succ_flat (fun s => evenT (cutS X s)) L hlt
    have fb := flat_bound X (L.take (i + 1))
    rw [hf] at fb
    have fb2 : (L.take (i + 1)).length * (2 * X.length) ≤ 1000 * (2 * 1000) := Nat.mul_le_mul (by simp; omega) (by omega)
    generalize L.getD i default = q at *
    rw [show sp q = [.int .i64 q.1, .int .i64 q.2] from rfl] at hat
    try simp only [s0, s1, s11, s12, s13, hlt, hx2, hat, pm, pmW, pmB, ft, ↓reduceIte, reduceCtorEq, nE, nA, nM, nD, nL, iL, iT, iE, iN, iC]
    intro b hb
    rw [Heap.kill_none hb]
    try simp only [s1, pm, pmW, pmB, ft, ↓reduceIte, reduceCtorEq, nE, nA, nM, nD, nL, iL, iT, iE, iN, iC]
    rw [slcS hq.1 (by omega) hq.2.2]
    have hcl := cut_le X q
    rw [List.length_append] at fb
    try simp only [s0, pm, pmW, pmB, ft, ↓reduceIte, reduceCtorEq, nE, nA, nM, nD, nL, iL, iT, iE, iN, iC]
    refine Classes _ hp' _ (cutS X q) (by omega) _ ?_
    try simp only [pm, pmW, pmB, ft, ↓reduceIte, reduceCtorEq, nE, nA, nM, nD, nL, iL, iT, iE, iN, iC]
    refine evened_ _ _ (cutS X q) (by omega) _ ?_
    try simp only [pm, pmW, pmB, ft, ↓reduceIte, reduceCtorEq, nE, nA, nM, nD, nL, iL, iT, iE, iN, iC]
    refine a.appA lh (by simp) (by omega) (by simp only [maxLen]; omega) fun v' h4 a4 l4 sd => ?_
    try simp only [s13, hw, pm, pmW, pmB, ft, ↓reduceIte, reduceCtorEq, nE, nA, nM, nD, nL, iL, iT, iE, iN, iC]
    refine next hlt _ _ ?_
    refine ⟨?_, l4, by simp [put, s0], by simp [put, s1], ⟨f11, by simp [put, s11]⟩, by simp [put, s12], by simp [put]⟩
    rw [hf, List.length_append, List.map_append]
    simpa [put] using a4
  · have e : i = L.length := by omega
    subst e
    have hnl := Nat.lt_irrefl L.length
    try simp only [s12, s13, hnl, pm, pmW, pmB, ft, ↓reduceIte, reduceCtorEq, nE, nA, nM, nD, nL, iL, iT, iE, iN, iC]
    rw [List.take_length] at a
    refine a.fin lh ?_
    rw [olds_ints]; exact k
end Go.Proofs.YtcgaphmndnmfdaaGreat

/-
  Whether all that begins ends (balance.Level), and the document's Even and Level.
  Conditions: a text of at most a thousand codes.
-/
namespace Go.Proofs.YtcgaphmndnmfdaaGreat
open Go.Pm
open Nat renaming reduceEqDiff → nE, reduceAdd → nA, reduceMul → nM, reduceLeDiff → nD, reduceLT → nL
open Int renaming reduceLE → iL, reduceLT → iT, reduceEq → iE, reduceToNat → iN, cast_ofNat_Int → iC
set_option maxRecDepth 100000
set_option linter.unusedSimpArgs false
set_option linter.unusedVariables false

def unevW (w : W3) : Bool := decide (0 < w.st.length + w.lo.length + w.ls.length)
def unevB (X : List Int) (s : Int × Int) : Bool := unevW (wkT (cls (cutS X s)))
def evLevel (X : List Int) : Bool := !(splitT X).any (unevB X)
/-! ### The document's -/
theorem has_ (fr : Bool) (L : List Int) (hl : L.length ≤ 1000000) (x : Int) (h : Heap) {K : PV → Heap → Prop} (k : K (.bool (decide (x ∈ L))) h) :
    CanP Tryz.prog 78 [.list fr 1 L.length (L.map (.int .i64)), .int .i64 x] h K := by
  refine e78 rfl ?_
  try simp only [c78, r78_0, r78_1, r78_2, r78_3, r78_4, r78_5, r78_6, pm, pmW, pmB, ft, ↓reduceIte, reduceCtorEq, nE, nA, nM, nD, nL, iL, iT, iE, iN, iC]
  refine pwp_up L.length (fun i σ h' => h' = h ∧ σ 0 = .list false 1 L.length (L.map (.int .i64)) ∧ σ 1 = .int .i64 x ∧ σ 5 = .int .i64 i ∧ decide (x ∈ L) = decide (x ∈ L.drop i)) ?_ ?_
  · exact ⟨rfl, rfl, rfl, rfl, rfl⟩
  rintro i σ h' K' hi ⟨rfl, s0, s1, s5, hp⟩ next
  rcases Nat.lt_or_ge i L.length with hlt | hge
  · have hw : IntKind.i64.wrap ((i : Int) + 1) = (i : Int) + 1 := wrap_in (by omega) (by omega)
    have hx := getm (PV.int .i64) L hlt
    rw [drop_getD L hlt] at hp
    generalize L.getD i default = c at *
    by_cases h1 : c = x
    · have hd : decide (c = x) = true := decide_eq_true h1
      try simp only [s0, s1, s5, hlt, hx, hd, h1, pm, pmW, pmB, ft, ↓reduceIte, reduceCtorEq, nE, nA, nM, nD, nL, iL, iT, iE, iN, iC]
      exact finK_rf (by rw [hp] at k; simpa [h1] using k)
    · have hd : decide (c = x) = false := decide_eq_false h1
      try simp only [s0, s1, s5, hlt, hx, hd, h1, hw, pm, pmW, pmB, ft, ↓reduceIte, reduceCtorEq, nE, nA, nM, nD, nL, iL, iT, iE, iN, iC]
      refine next hlt _ _ ?_
      exact ⟨rfl, by simp [put, s0], by simp [put, s1], by simp [put], by rw [hp, decide_eq_decide]; simp [Ne.symm h1]⟩
  · have e : i = L.length := by omega
    subst e
    have hnl := Nat.lt_irrefl L.length
    try simp only [s0, s5, hnl, pm, pmW, pmB, ft, ↓reduceIte, reduceCtorEq, nE, nA, nM, nD, nL, iL, iT, iE, iN, iC]
    rw [hp, List.drop_length] at k
    exact finK_rf (by simpa using k)
theorem bodyR (fr : Bool) (X : List Int) (hl : X.length ≤ 1000000) (h : Heap) {K : PV → Heap → Prop} (k : K (.int .i64 (bodyT X)) h) :
    CanP Tryz.prog 76 [.list fr 1 X.length (X.map (.int .i64))] h K := by
  refine e76 rfl ?_
  try simp only [c76, r76_0, r76_1, r76_2, r76_3, r76_4, r76_5, r76_6, pm, pmW, pmB, ft, ↓reduceIte, reduceCtorEq, nE, nA, nM, nD, nL, iL, iT, iE, iN, iC]
  rw [bodyT] at k
  by_cases h0 : X.length = 0
  · rw [if_pos (.inl h0)] at k
    have h0' : ¬ (0 : Int) < (X.length : Int) := by omega
    try simp only [h0', pm, pmW, pmB, ft, ↓reduceIte, reduceCtorEq, nE, nA, nM, nD, nL, iL, iT, iE, iN, iC]
    exact finK_rf k
  · have h0' : (0 : Int) < (X.length : Int) := by omega
    have hw1 : IntKind.i64.wrap ((X.length : Int) - 1) = ((X.length - 1 : Nat) : Int) := by rw [wrap_in (by omega) (by omega)]; omega
    have hlt1 : X.length - 1 < X.length := by omega
    have hx1 := getm (PV.int .i64) X hlt1
    try simp only [h0', hw1, hlt1, hx1, pm, pmW, pmB, ft, ↓reduceIte, reduceCtorEq, nE, nA, nM, nD, nL, iL, iT, iE, iN, iC]
    refine ClassR _ _ ?_
    by_cases h1 : classT (X.getD (X.length - 1) default) = 10
    · have hd1 : decide (classT (X.getD (X.length - 1) default) = 10) = true := decide_eq_true h1
      rw [if_neg (by rintro (a | a); exact h0 a; exact a h1)] at k
      by_cases h2 : 1 < X.length
      · have h2' : (0 : Int) < ((X.length - 1 : Nat) : Int) := by omega
        have hw2 : IntKind.i64.wrap (((X.length - 1 : Nat) : Int) - 1) = ((X.length - 2 : Nat) : Int) := by rw [wrap_in (by omega) (by omega)]; omega
        have hlt2 : X.length - 2 < X.length := by omega
        have hx2 := getm (PV.int .i64) X hlt2
        cases h4 : decide (X.getD (X.length - 1) default = 10)
        · rw [if_neg (fun a => of_decide_eq_false h4 a.2.2)] at k
          try simp only [hd1, h2', hw1, hw2, hlt1, hlt2, hx1, hx2, h4, pm, pmW, pmB, ft, ↓reduceIte, reduceCtorEq, nE, nA, nM, nD, nL, iL, iT, iE, iN, iC]
          exact finK_rf k
        · cases h3 : decide (X.getD (X.length - 2) default = 13)
          · rw [if_neg (fun a => of_decide_eq_false h3 a.2.1)] at k
            try simp only [hd1, h2', hw1, hw2, hlt1, hlt2, hx1, hx2, h4, h3, pm, pmW, pmB, ft, ↓reduceIte, reduceCtorEq, nE, nA, nM, nD, nL, iL, iT, iE, iN, iC]
            exact finK_rf k
          · rw [if_pos ⟨h2, by simpa using h3, by simpa using h4⟩] at k
            try simp only [hd1, h2', hw1, hw2, hlt1, hlt2, hx1, hx2, h4, h3, pm, pmW, pmB, ft, ↓reduceIte, reduceCtorEq, nE, nA, nM, nD, nL, iL, iT, iE, iN, iC]
            exact finK_rf k
      · have h2' : ¬ (0 : Int) < ((X.length - 1 : Nat) : Int) := by omega
        rw [if_neg (by omega)] at k
        try simp only [hd1, h2', hw1, pm, pmW, pmB, ft, ↓reduceIte, reduceCtorEq, nE, nA, nM, nD, nL, iL, iT, iE, iN, iC]
        exact finK_rf k
    · have hd1 : decide (classT (X.getD (X.length - 1) default) = 10) = false := decide_eq_false h1
      rw [if_pos (.inr h1)] at k
      try simp only [hd1, pm, pmW, pmB, ft, ↓reduceIte, reduceCtorEq, nE, nA, nM, nD, nL, iL, iT, iE, iN, iC]
      exact finK_rf k
end Go.Proofs.YtcgaphmndnmfdaaGreat
