/-
  Rows of whole numbers put one behind the other (slices.Concat).
  Conditions: at most a hundred rows, of a million together.
-/
import Derived.Test.YtcgaphmndnmfdaaGreatC
import Derived.Test.YtcgaphmndnmfdaaGreatLgrow
namespace Go.Proofs.YtcgaphmndnmfdaaGreat
open Go.Pm
open Nat renaming reduceEqDiff → nE, reduceAdd → nA, reduceMul → nM, reduceLeDiff → nD, reduceLT → nL
open Int renaming reduceLE → iL, reduceLT → iT, reduceEq → iE, reduceToNat → iN, cast_ofNat_Int → iC
set_option maxRecDepth 100000
set_option linter.unusedSimpArgs false
set_option linter.unusedVariables false

/-- A value that is a row of numbers. -/
def RowV (h : Heap) (v : PV) (l : List Int) : Prop := (v = .nils ∧ l = []) ∨ (∃ fr, v = .list fr 1 l.length (l.map (.int .i64))) ∨ ∃ b, v = .buf b 1 0 l.length ∧ h.f b = some (l.map (.int .i64))
theorem RowV.old {h : Heap} {v : PV} {l : List Int} (r : RowV h v l) : RowV h v.old l := by
  rcases r with ⟨rfl, rfl⟩ | ⟨fr, rfl⟩ | ⟨b, rfl, e⟩
  · exact .inl ⟨rfl, rfl⟩
  · exact .inr (.inl ⟨false, by simp [PV.old, olds_ints]⟩)
  · exact .inr (.inr ⟨b, rfl, e⟩)
theorem RowV.le {h h' : Heap} {v : PV} {l : List Int} (r : RowV h v l) (le : h.le h') : RowV h' v l := by
  rcases r with ⟨rfl, rfl⟩ | ⟨fr, rfl⟩ | ⟨b, rfl, e⟩
  · exact .inl ⟨rfl, rfl⟩
  · exact .inr (.inl ⟨fr, rfl⟩)
  · exact .inr (.inr ⟨b, rfl, le _ _ e⟩)
def Rows (h : Heap) : List PV → List (List Int) → Prop
  | [], [] => True
  | v :: vs, l :: ls => RowV h v l ∧ Rows h vs ls
  | _, _ => False
theorem Rows.at {h : Heap} : ∀ {vs : List PV} {ls : List (List Int)}, Rows h vs ls → ls.length = vs.length ∧ ∀ i, i < vs.length → ∃ u, vs[i]? = some u ∧ RowV h u (ls.getD i default)
  | [], [], _ => ⟨rfl, fun i hi => by simp at hi⟩
  | v :: vs, l :: ls, r => by
    obtain ⟨a, b⟩ := r.2.at
    refine ⟨by simp [a], fun i hi => ?_⟩
    cases i with
    | zero => exact ⟨v, rfl, r.1⟩
    | succ i => simpa using b i (by simpa using hi)
  | [], _ :: _, r => r.elim
  | _ :: _, [], r => r.elim
theorem Rows.old {h : Heap} : ∀ {vs : List PV} {ls : List (List Int)}, Rows h vs ls → Rows h (olds vs) ls
  | [], [], _ => trivial
  | v :: vs, l :: ls, r => ⟨r.1.old, r.2.old⟩
  | [], _ :: _, r => r.elim
  | _ :: _, [], r => r.elim
theorem flat_take {ls : List (List Int)} {i : Nat} (h : i < ls.length) : (ls.take (i + 1)).flatten = (ls.take i).flatten ++ ls.getD i default := by
  rw [List.take_add_one, List.flatten_append, List.getD, List.getElem?_eq_getElem h]; simp
theorem flat_le {ls : List (List Int)} (i : Nat) : (ls.take i).flatten.length ≤ ls.flatten.length := by
  have := congrArg List.length (congrArg List.flatten (List.take_append_drop i ls))
  rw [List.flatten_append, List.length_append] at this
  omega
theorem GrowAcc (n : Nat) (hn : n ≤ 100000000) (h : Heap) {K : PV → Heap → Prop} (k : ∀ v h2, Acc h h2 v 1 0 [] → h.le h2 → K v h2) : CanP Tryz.prog 116 [.nils, .int .i64 n] h K :=
  GrowNil n hn h (fun _ => k _ _ (Acc.nil _ _ _) (Heap.le_refl _)) fun _ b hb => k _ _ (Acc.buf hb (Heap.set_same _ _ _) rfl) (Heap.le_set (Heap.le_refl _) hb)
theorem ConcatI (fr : Bool) (vs : List PV) (ls : List (List Int)) (hl : ls.flatten.length ≤ 1000000) (hn : vs.length ≤ 100000) (h : Heap) (r : Rows h vs ls)
    {K : PV → Heap → Prop} (k : K (.list true 1 ls.flatten.length (ls.flatten.map (.int .i64))) h) :
    CanP Tryz.prog 70 [.list fr 1 vs.length vs] h K := by
  refine e70 rfl ?_
  have ro := r.old
  have hol : (olds vs).length = vs.length := by rw [← ro.at.1, r.at.1]
  rw [← hol] at hn ⊢
  try simp only [c70, r70_0, r70_1, r70_2, r70_3, r70_4, r70_5, r70_6, r70_7, r70_8, r70_9, r70_10, r70_11, r70_12, r70_13, r70_14, r70_15, pm, pmW, pmB, ft, ↓reduceIte, reduceCtorEq, nE, nA, nM, nD, nL, iL, iT, iE, iN, iC]
  generalize olds vs = us at *
  obtain ⟨hls, hat⟩ := ro.at
  refine pwp_up us.length (fun i σ h' => h' = h ∧ σ 0 = .list false 1 us.length us ∧ σ 3 = .int .i64 ((ls.take i).flatten.length : Nat) ∧ σ 9 = .list false 1 us.length us ∧ σ 10 = .int .i64 us.length ∧ σ 11 = .int .i64 i) ?_ ?_
  · exact ⟨rfl, rfl, rfl, rfl, rfl, rfl⟩
  rintro i σ h' K' hi ⟨rfl, s0, s3, s9, s10, s11⟩ next
  rcases Nat.lt_or_ge i us.length with hlt | hge
  · have hw : IntKind.i64.wrap ((i : Int) + 1) = (i : Int) + 1 := wrap_in (by omega) (by omega)
    obtain ⟨u, hx, hu⟩ := hat i hlt
    have hf := flat_take (ls := ls) (i := i) (by omega)
    have hle := flat_le (ls := ls) (i + 1)
    rw [hf, List.length_append] at hle
    have hw2 : IntKind.i64.wrap (((ls.take i).flatten.length : Int) + ((ls.getD i default).length : Int)) = ((ls.take i).flatten.length : Int) + ((ls.getD i default).length : Int) := wrap_in (by omega) (by omega)
    have hneg : ¬ (((ls.take i).flatten.length : Int) + ((ls.getD i default).length : Int) < 0) := by omega
    have fin9 : ∀ (σ' : Sl), σ' 0 = .list false 1 us.length us → σ' 3 = .int .i64 (((ls.take i).flatten.length : Int) + ((ls.getD i default).length : Int)) → σ' 9 = .list false 1 us.length us → σ' 10 = .int .i64 us.length → σ' 11 = .int .i64 ((i : Int) + 1) → K' σ' h' := by
      intro σ' q0 q3 q9 q10 q11
      exact next hlt _ _ ⟨rfl, q0, by rw [q3, hf, List.length_append]; rfl, q9, q10, by rw [q11]; rfl⟩
    rcases hu with ⟨rfl, e⟩ | ⟨fr2, rfl⟩ | ⟨b, rfl, hb⟩
    · have hw0 : IntKind.i64.wrap (((ls.take i).flatten.length : Int) + 0) = ((ls.take i).flatten.length : Int) := by rw [Int.add_zero]; exact wrap_in (by omega) (by omega)
      have hneg0 : ¬ (((ls.take i).flatten.length : Int) < 0) := by omega
      try simp only [s3, s9, s10, s11, hlt, hx, hw, hw0, hneg0, pm, pmW, pmB, ft, ↓reduceIte, reduceCtorEq, nE, nA, nM, nD, nL, iL, iT, iE, iN, iC]
      exact fin9 _ (by simp [put, s0]) (by simp only [e]; simp [put]) (by simp [put, s9]) (by simp [put, s10]) (by simp [put])
    · try simp only [s3, s9, s10, s11, hlt, hx, hw, hw2, hneg, pm, pmW, pmB, ft, ↓reduceIte, reduceCtorEq, nE, nA, nM, nD, nL, iL, iT, iE, iN, iC]
      exact fin9 _ (by simp [put, s0]) (by simp [put]) (by simp [put, s9]) (by simp [put, s10]) (by simp [put])
    · try simp only [s3, s9, s10, s11, hlt, hx, hw, hw2, hneg, hb, pm, pmW, pmB, ft, ↓reduceIte, reduceCtorEq, nE, nA, nM, nD, nL, iL, iT, iE, iN, iC]
      exact fin9 _ (by simp [put, s0]) (by simp [put]) (by simp [put, s9]) (by simp [put, s10]) (by simp [put])
  · have e : i = us.length := by omega
    subst e
    have hnl := Nat.lt_irrefl us.length
    rw [List.take_of_length_le (by omega)] at s3
    try simp only [s3, s10, s11, hnl, pm, pmW, pmB, ft, ↓reduceIte, reduceCtorEq, nE, nA, nM, nD, nL, iL, iT, iE, iN, iC]
    refine GrowAcc _ (by omega) _ fun v6 h2 a6 l6 => ?_
    try simp only [s0, pm, pmW, pmB, ft, ↓reduceIte, reduceCtorEq, nE, nA, nM, nD, nL, iL, iT, iE, iN, iC]
    refine pwp_up us.length (fun i σ h3 => Acc h' h3 (σ 6) 1 (ls.take i).flatten.length ((ls.take i).flatten.map (.int .i64)) ∧ h'.le h3 ∧ σ 25 = .list false 1 us.length us ∧ σ 26 = .int .i64 us.length ∧ σ 27 = .int .i64 i) ?_ ?_
    · exact ⟨a6, l6, rfl, rfl, rfl⟩
    rintro i σ h3 K3 hi ⟨a, l3, s25, s26, s27⟩ next
    rcases Nat.lt_or_ge i us.length with hlt | hge
    · have hw : IntKind.i64.wrap ((i : Int) + 1) = (i : Int) + 1 := wrap_in (by omega) (by omega)
      obtain ⟨u, hx, hu⟩ := hat i hlt
      have hf := flat_take (ls := ls) (i := i) (by omega)
      have hle := flat_le (ls := ls) (i + 1)
      rw [hf, List.length_append] at hle
      have go : ∀ (σ3 : Sl) (K4 : Kt), (∀ v' h4, Acc h' h4 v' 1 (ls.take (i + 1)).flatten.length ((ls.take (i + 1)).flatten.map (.int .i64)) → h'.le h4 → K4 v' h4) → ap2K (some ((ls.getD i default).length, (ls.getD i default).map (.int .i64))) 1 8 (σ 6) K4 h3 := by
        intro σ3 K4 k4
        refine a.appA l3 (by simp) (by omega) (by simp only [maxLen]; omega) fun v' h4 a4 l4 sd => ?_
        refine k4 v' h4 ?_ l4
        rw [hf, List.length_append, List.map_append]; exact a4
      rcases hu with ⟨rfl, e⟩ | ⟨fr2, rfl⟩ | ⟨b, rfl, hb⟩
      · rw [e] at go
        try simp only [s25, s26, s27, hlt, hx, pm, pmW, pmB, ft, ↓reduceIte, reduceCtorEq, nE, nA, nM, nD, nL, iL, iT, iE, iN, iC]
        refine go σ _ fun v' h4 a4 l4 => ?_
        try simp only [s27, hw, pm, pmW, pmB, ft, ↓reduceIte, reduceCtorEq, nE, nA, nM, nD, nL, iL, iT, iE, iN, iC]
        exact next hlt _ _ ⟨by simpa [put] using a4, l4, by simp [put, s25], by simp [put, s26], by simp [put]⟩
      · try simp only [s25, s26, s27, hlt, hx, pm, pmW, pmB, ft, ↓reduceIte, reduceCtorEq, nE, nA, nM, nD, nL, iL, iT, iE, iN, iC]
        refine go σ _ fun v' h4 a4 l4 => ?_
        try simp only [s27, hw, pm, pmW, pmB, ft, ↓reduceIte, reduceCtorEq, nE, nA, nM, nD, nL, iL, iT, iE, iN, iC]
        exact next hlt _ _ ⟨by simpa [put] using a4, l4, by simp [put, s25], by simp [put, s26], by simp [put]⟩
      · have hb3 := l3 _ _ hb
        try simp only [s25, s26, s27, hlt, hx, hb3, pm, pmW, pmB, ft, ↓reduceIte, reduceCtorEq, nE, nA, nM, nD, nL, iL, iT, iE, iN, iC]
        rw [if_pos (by simp), List.take_of_length_le (by simp)]
        refine go σ _ fun v' h4 a4 l4 => ?_
        try simp only [s27, hw, pm, pmW, pmB, ft, ↓reduceIte, reduceCtorEq, nE, nA, nM, nD, nL, iL, iT, iE, iN, iC]
        exact next hlt _ _ ⟨by simpa [put] using a4, l4, by simp [put, s25], by simp [put, s26], by simp [put]⟩
    · have e : i = us.length := by omega
      subst e
      rw [List.take_of_length_le (by omega)] at a
      try simp only [s26, s27, hnl, pm, pmW, pmB, ft, ↓reduceIte, reduceCtorEq, nE, nA, nM, nD, nL, iL, iT, iE, iN, iC]
      refine a.fin l3 ?_
      rw [olds_ints]; exact k
/-- The same, as a live row. -/
theorem ConcatB (fr : Bool) (vs : List PV) (ls : List (List Int)) (hl : ls.flatten.length ≤ 1000000) (hn : vs.length ≤ 100000) (h : Heap) (r : Rows h vs ls)
    {K : PV → Heap → Prop} (k : ∀ v h', Acc h h' v 1 ls.flatten.length (ls.flatten.map (.int .i64)) → h.le h' → K v h') :
    CanP Tryz.prog 70 [.list fr 1 vs.length vs] h K := by
  refine e70 rfl ?_
  have ro := r.old
  have hol : (olds vs).length = vs.length := by rw [← ro.at.1, r.at.1]
  rw [← hol] at hn ⊢
  try simp only [c70, r70_0, r70_1, r70_2, r70_3, r70_4, r70_5, r70_6, r70_7, r70_8, r70_9, r70_10, r70_11, r70_12, r70_13, r70_14, r70_15, pm, pmW, pmB, ft, ↓reduceIte, reduceCtorEq, nE, nA, nM, nD, nL, iL, iT, iE, iN, iC]
  generalize olds vs = us at *
  obtain ⟨hls, hat⟩ := ro.at
  refine pwp_up us.length (fun i σ h' => h' = h ∧ σ 0 = .list false 1 us.length us ∧ σ 3 = .int .i64 ((ls.take i).flatten.length : Nat) ∧ σ 9 = .list false 1 us.length us ∧ σ 10 = .int .i64 us.length ∧ σ 11 = .int .i64 i) ?_ ?_
  · exact ⟨rfl, rfl, rfl, rfl, rfl, rfl⟩
  rintro i σ h' K' hi ⟨rfl, s0, s3, s9, s10, s11⟩ next
  rcases Nat.lt_or_ge i us.length with hlt | hge
  · have hw : IntKind.i64.wrap ((i : Int) + 1) = (i : Int) + 1 := wrap_in (by omega) (by omega)
    obtain ⟨u, hx, hu⟩ := hat i hlt
    have hf := flat_take (ls := ls) (i := i) (by omega)
    have hle := flat_le (ls := ls) (i + 1)
    rw [hf, List.length_append] at hle
    have hw2 : IntKind.i64.wrap (((ls.take i).flatten.length : Int) + ((ls.getD i default).length : Int)) = ((ls.take i).flatten.length : Int) + ((ls.getD i default).length : Int) := wrap_in (by omega) (by omega)
    have hneg : ¬ (((ls.take i).flatten.length : Int) + ((ls.getD i default).length : Int) < 0) := by omega
    have fin9 : ∀ (σ' : Sl), σ' 0 = .list false 1 us.length us → σ' 3 = .int .i64 (((ls.take i).flatten.length : Int) + ((ls.getD i default).length : Int)) → σ' 9 = .list false 1 us.length us → σ' 10 = .int .i64 us.length → σ' 11 = .int .i64 ((i : Int) + 1) → K' σ' h' := by
      intro σ' q0 q3 q9 q10 q11
      exact next hlt _ _ ⟨rfl, q0, by rw [q3, hf, List.length_append]; rfl, q9, q10, by rw [q11]; rfl⟩
    rcases hu with ⟨rfl, e⟩ | ⟨fr2, rfl⟩ | ⟨b, rfl, hb⟩
    · have hw0 : IntKind.i64.wrap (((ls.take i).flatten.length : Int) + 0) = ((ls.take i).flatten.length : Int) := by rw [Int.add_zero]; exact wrap_in (by omega) (by omega)
      have hneg0 : ¬ (((ls.take i).flatten.length : Int) < 0) := by omega
      try simp only [s3, s9, s10, s11, hlt, hx, hw, hw0, hneg0, pm, pmW, pmB, ft, ↓reduceIte, reduceCtorEq, nE, nA, nM, nD, nL, iL, iT, iE, iN, iC]
      exact fin9 _ (by simp [put, s0]) (by simp only [e]; simp [put]) (by simp [put, s9]) (by simp [put, s10]) (by simp [put])
    · try simp only [s3, s9, s10, s11, hlt, hx, hw, hw2, hneg, pm, pmW, pmB, ft, ↓reduceIte, reduceCtorEq, nE, nA, nM, nD, nL, iL, iT, iE, iN, iC]
      exact fin9 _ (by simp [put, s0]) (by simp [put]) (by simp [put, s9]) (by simp [put, s10]) (by simp [put])
    · try simp only [s3, s9, s10, s11, hlt, hx, hw, hw2, hneg, hb, pm, pmW, pmB, ft, ↓reduceIte, reduceCtorEq, nE, nA, nM, nD, nL, iL, iT, iE, iN, iC]
      exact fin9 _ (by simp [put, s0]) (by simp [put]) (by simp [put, s9]) (by simp [put, s10]) (by simp [put])
  · have e : i = us.length := by omega
    subst e
    have hnl := Nat.lt_irrefl us.length
    rw [List.take_of_length_le (by omega)] at s3
    try simp only [s3, s10, s11, hnl, pm, pmW, pmB, ft, ↓reduceIte, reduceCtorEq, nE, nA, nM, nD, nL, iL, iT, iE, iN, iC]
    refine GrowAcc _ (by omega) _ fun v6 h2 a6 l6 => ?_
    try simp only [s0, pm, pmW, pmB, ft, ↓reduceIte, reduceCtorEq, nE, nA, nM, nD, nL, iL, iT, iE, iN, iC]
    refine pwp_up us.length (fun i σ h3 => Acc h' h3 (σ 6) 1 (ls.take i).flatten.length ((ls.take i).flatten.map (.int .i64)) ∧ h'.le h3 ∧ σ 25 = .list false 1 us.length us ∧ σ 26 = .int .i64 us.length ∧ σ 27 = .int .i64 i) ?_ ?_
    · exact ⟨a6, l6, rfl, rfl, rfl⟩
    rintro i σ h3 K3 hi ⟨a, l3, s25, s26, s27⟩ next
    rcases Nat.lt_or_ge i us.length with hlt | hge
    · have hw : IntKind.i64.wrap ((i : Int) + 1) = (i : Int) + 1 := wrap_in (by omega) (by omega)
      obtain ⟨u, hx, hu⟩ := hat i hlt
      have hf := flat_take (ls := ls) (i := i) (by omega)
      have hle := flat_le (ls := ls) (i + 1)
      rw [hf, List.length_append] at hle
      have go : ∀ (σ3 : Sl) (K4 : Kt), (∀ v' h4, Acc h' h4 v' 1 (ls.take (i + 1)).flatten.length ((ls.take (i + 1)).flatten.map (.int .i64)) → h'.le h4 → K4 v' h4) → ap2K (some ((ls.getD i default).length, (ls.getD i default).map (.int .i64))) 1 8 (σ 6) K4 h3 := by
        intro σ3 K4 k4
        refine a.appA l3 (by simp) (by omega) (by simp only [maxLen]; omega) fun v' h4 a4 l4 sd => ?_
        refine k4 v' h4 ?_ l4
        rw [hf, List.length_append, List.map_append]; exact a4
      rcases hu with ⟨rfl, e⟩ | ⟨fr2, rfl⟩ | ⟨b, rfl, hb⟩
      · rw [e] at go
        try simp only [s25, s26, s27, hlt, hx, pm, pmW, pmB, ft, ↓reduceIte, reduceCtorEq, nE, nA, nM, nD, nL, iL, iT, iE, iN, iC]
        refine go σ _ fun v' h4 a4 l4 => ?_
        try simp only [s27, hw, pm, pmW, pmB, ft, ↓reduceIte, reduceCtorEq, nE, nA, nM, nD, nL, iL, iT, iE, iN, iC]
        exact next hlt _ _ ⟨by simpa [put] using a4, l4, by simp [put, s25], by simp [put, s26], by simp [put]⟩
      · try simp only [s25, s26, s27, hlt, hx, pm, pmW, pmB, ft, ↓reduceIte, reduceCtorEq, nE, nA, nM, nD, nL, iL, iT, iE, iN, iC]
        refine go σ _ fun v' h4 a4 l4 => ?_
        try simp only [s27, hw, pm, pmW, pmB, ft, ↓reduceIte, reduceCtorEq, nE, nA, nM, nD, nL, iL, iT, iE, iN, iC]
        exact next hlt _ _ ⟨by simpa [put] using a4, l4, by simp [put, s25], by simp [put, s26], by simp [put]⟩
      · have hb3 := l3 _ _ hb
        try simp only [s25, s26, s27, hlt, hx, hb3, pm, pmW, pmB, ft, ↓reduceIte, reduceCtorEq, nE, nA, nM, nD, nL, iL, iT, iE, iN, iC]
        rw [if_pos (by simp), List.take_of_length_le (by simp)]
        refine go σ _ fun v' h4 a4 l4 => ?_
        try simp only [s27, hw, pm, pmW, pmB, ft, ↓reduceIte, reduceCtorEq, nE, nA, nM, nD, nL, iL, iT, iE, iN, iC]
        exact next hlt _ _ ⟨by simpa [put] using a4, l4, by simp [put, s25], by simp [put, s26], by simp [put]⟩
    · have e : i = us.length := by omega
      subst e
      rw [List.take_of_length_le (by omega)] at a
      try simp only [s26, s27, hnl, pm, pmW, pmB, ft, ↓reduceIte, reduceCtorEq, nE, nA, nM, nD, nL, iL, iT, iE, iN, iC]
      exact finK_rf (k _ _ a l3)
end Go.Proofs.YtcgaphmndnmfdaaGreat
