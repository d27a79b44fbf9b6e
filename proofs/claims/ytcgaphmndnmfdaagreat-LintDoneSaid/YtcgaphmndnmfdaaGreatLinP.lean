/-
  Plain: a text that is mended has nothing loose, no marks out of order, no rows of tatweels, no forms but tails.
-/
import Derived.Test.YtcgaphmndnmfdaaGreatLinK
import Derived.Test.YtcgaphmndnmfdaaGreatSeg1
namespace Go.Proofs.YtcgaphmndnmfdaaGreat
open Go.Pm
open Nat renaming reduceEqDiff → nE, reduceAdd → nA, reduceMul → nM, reduceLeDiff → nD, reduceLT → nL
open Int renaming reduceLE → iL, reduceLT → iT, reduceEq → iE, reduceToNat → iN, cast_ofNat_Int → iC
set_option maxRecDepth 100000
set_option linter.unusedSimpArgs false
set_option linter.unusedVariables false

/-! ### What is neutral -/
def spB (k : Int) : Bool := (embT k || opensT k) || (decide (k = 18) || (decide (k = 22) || decide (k = 10)))
theorem abs_neu {k : Int} (h : spB k = false) (a : List Bool) : absS a k = some a := by
  simp only [spB, Bool.or_eq_false_iff, decide_eq_false_iff_not] at h
  obtain ⟨⟨h1, h2⟩, h3, h4, h5⟩ := h
  unfold absS
  rw [h1, h2, if_neg (by simp), if_neg (by simp), if_neg h3, if_neg h4]
def spC (c : Int) : Bool := spB (classT c)
def gq : List Bool → List Int → Prop
  | a, [] => a = []
  | a, x :: l => match absS a (classT x) with
    | none => False
    | some b => (classT x = 10 → b = []) ∧ gq b l
theorem gq_iff : ∀ (X : List Int) (a : List Bool), gq a X ↔ (rn a X = some [] ∧ ∀ i, i < X.length → classT (X.getD i default) = 10 → rn a (X.take (i + 1)) = some [])
  | [], a => by simp [gq, rn]
  | x :: l, a => by
    rw [gq, rn]
    cases q : absS a (classT x) with
    | none => simp
    | some b =>
      rw [Option.bind_some]
      simp only []
      rw [gq_iff l b]
      constructor
      · rintro ⟨h1, h2, h3⟩
        refine ⟨h2, fun i hi hc => ?_⟩
        cases i with
        | zero => rw [List.take_succ_cons, List.take_zero, rn, q, Option.bind_some, rn, h1 hc]
        | succ j =>
          rw [List.take_succ_cons, rn, q, Option.bind_some]
          exact h3 j (by simpa using hi) (by simpa using hc)
      · rintro ⟨h1, h2⟩
        refine ⟨fun hc => ?_, h1, fun i hi hc => ?_⟩
        · have := h2 0 (by simp) hc
          rw [List.take_succ_cons, List.take_zero, rn, q, Option.bind_some, rn] at this
          exact Option.some.inj this
        · have := h2 (i + 1) (by simp; omega) (by simpa using hc)
          rwa [List.take_succ_cons, rn, q, Option.bind_some] at this
theorem gq_strip : ∀ (X : List Int) (a : List Bool), gq a X ↔ gq a (X.filter spC)
  | [], a => Iff.rfl
  | x :: l, a => by
    cases q : spC x
    · rw [List.filter_cons_of_neg (by simp [q]), ← gq_strip l a, gq, abs_neu q a]
      simp only []
      have h10 : classT x ≠ 10 := fun e => by
        rw [spC, e] at q
        exact absurd q (by decide)
      exact ⟨fun h => h.2, fun h => ⟨fun e => absurd e h10, h⟩⟩
    · rw [List.filter_cons_of_pos q, gq, gq]
      cases absS a (classT x) with
      | none => exact Iff.rfl
      | some b =>
        simp only []
        rw [gq_strip l b]
/-! ### The tables -/
def okP (x : Int) : Bool := !spC x && !presB x
def okS (c : Int) : Bool := (backT c == [c]) && (decide (cccT c = 0) && decide (c ≠ 1600))
theorem sp_all : brs.all (fun r => !spB r.2.2 || (List.range (r.2.1 - r.1 + 1).toNat).all fun i => okS (r.1 + (i : Int))) = true := by kernel_rfl
theorem parts_all : (lets.all (fun p => okP p.1) && (ligs.all (fun p => okP p.1) && (accs.all (fun p => okP p.1) && (pils.all (fun p => okP p.1) && (okP 1604 && okP 1617))))) = true := by kernel_rfl
theorem sp_in {c : Int} (h : spC c = true) : ∃ r ∈ brs, (r.1 ≤ c ∧ c ≤ r.2.1) ∧ spB r.2.2 = true := by
  unfold spC classT at h
  split at h
  · unfold getR at h
    cases q : brs.find? (fun r => decide (r.1 ≤ c ∧ c ≤ r.2.1)) with
    | none => rw [q] at h; exact absurd h (by decide)
    | some r =>
      rw [q] at h
      exact ⟨r, List.mem_of_find?_eq_some q, by simpa using List.find?_some q, h⟩
  · exact absurd h (by decide)
theorem sp_ok {c : Int} (h : spC c = true) : backT c = [c] ∧ cccT c = 0 ∧ c ≠ 1600 := by
  obtain ⟨r, hr, hc, hs⟩ := sp_in h
  have := List.all_eq_true.1 sp_all r hr
  rw [hs, Bool.not_true, Bool.false_or] at this
  have := List.all_eq_true.1 this (c - r.1).toNat (List.mem_range.2 (by omega))
  rw [show r.1 + (((c - r.1).toNat : Nat) : Int) = c by omega] at this
  simpa [okS] using this
theorem base_mem {c : Int} (h : (baseF lets c).2.2 = true) : ∃ p ∈ lets, (baseF lets c).1 = p.1 := by
  unfold baseF at h ⊢
  cases q : lets.find? (fun p => (fl p).any (isF c)) with
  | none => rw [q] at h; cases h
  | some p => exact ⟨p, List.mem_of_find?_eq_some q, rfl⟩
theorem part_mem {c : Int} (h : (partP ligs c).2.2 = true) : ∃ p ∈ ligs, (partP ligs c).1 = p.1 := by
  unfold partP at h ⊢
  cases q : ligs.find? (partQ c) with
  | none => rw [q] at h; cases h
  | some p => exact ⟨p, List.mem_of_find?_eq_some q, rfl⟩
theorem mark_mem {c : Int} (h : (markP accs c).2.2 = true) : ∃ p ∈ accs, (markP accs c).1 = p.1 := by
  unfold markP at h ⊢
  cases q : accs.find? (markQ c) with
  | none => rw [q] at h; cases h
  | some p => exact ⟨p, List.mem_of_find?_eq_some q, rfl⟩
theorem unp_mem {c : Int} (h : (unpP pils c).2 = true) : ∃ p ∈ pils, (unpP pils c).1 = p.1 := by
  unfold unpP at h ⊢
  cases q : pils.find? (sq2 c) with
  | none => rw [q] at h; cases h
  | some p => exact ⟨p, List.mem_of_find?_eq_some q, rfl⟩
theorem back_cases (c : Int) : (∀ x ∈ backT c, okP x = true) ∨ (backT c = [c] ∧ (presB c = true → c = 65139)) := by
  have hp := parts_all
  simp only [Bool.and_eq_true] at hp
  obtain ⟨p1, p2, p3, p4, p5, p6⟩ := hp
  unfold backT
  by_cases h1 : (baseF lets c).2.2 = true
  · rw [if_pos h1]
    obtain ⟨p, hm, e⟩ := base_mem h1
    refine .inl fun x hx => ?_
    rw [List.mem_singleton.1 hx, e]; exact List.all_eq_true.1 p1 p hm
  · rw [if_neg h1]
    by_cases h2 : (partP ligs c).2.2 = true
    · rw [if_pos h2]
      obtain ⟨p, hm, e⟩ := part_mem h2
      refine .inl fun x hx => ?_
      rcases List.mem_cons.1 hx with rfl | hx
      · exact p5
      · rw [List.mem_singleton.1 hx, e]; exact List.all_eq_true.1 p2 p hm
    · rw [if_neg h2]
      by_cases h3 : (markP accs c).2.2 = true
      · rw [if_pos h3]
        obtain ⟨p, hm, e⟩ := mark_mem h3
        refine .inl fun x hx => ?_
        rw [List.mem_singleton.1 hx, e]; exact List.all_eq_true.1 p3 p hm
      · rw [if_neg h3]
        by_cases h4 : (unpP pils c).2 = true
        · rw [if_pos h4]
          obtain ⟨p, hm, e⟩ := unp_mem h4
          refine .inl fun x hx => ?_
          rcases List.mem_cons.1 hx with rfl | hx
          · exact p6
          · rw [List.mem_singleton.1 hx, e]; exact List.all_eq_true.1 p4 p hm
        · rw [if_neg h4]
          refine .inr ⟨rfl, fun h => ?_⟩
          rw [presB, Bool.eq_false_iff.2 h1, Bool.eq_false_iff.2 h2, Bool.eq_false_iff.2 h3, Bool.eq_false_iff.2 h4] at h
          simpa using h
/-! ### The special codes stay, in their order -/
theorem strip_back (c : Int) : (backT c).filter spC = [c].filter spC := by
  rcases back_cases c with h | h
  · cases q : spC c
    · rw [List.filter_cons_of_neg (by simp [q]), List.filter_nil, List.filter_eq_nil_iff]
      intro x hx
      have := h x hx
      rw [okP, Bool.and_eq_true] at this
      simpa using this.1
    · rw [(sp_ok q).1]
  · rw [h.1]
theorem strip_flat : ∀ Y : List Int, (Y.flatMap backT).filter spC = Y.filter spC
  | [] => rfl
  | c :: Y => by
    rw [List.flatMap_cons, List.filter_append, strip_back, strip_flat Y, ← List.filter_append]; rfl
theorem neu_of {c : Int} (h : cccT c ≠ 0) : spC c = false := by
  cases q : spC c
  · rfl
  · exact absurd (sp_ok q).2.1 h
theorem strip_seg : ∀ (l p : List Int), (∀ x ∈ p, spC x = false) → (sgm (srt cccT) (noC cccT) p l).filter spC = l.filter spC
  | [], p, h => by
    rw [sgm, List.filter_nil, List.filter_eq_nil_iff]
    intro x hx
    rw [h x ((srt_perm cccT p).mem_iff.1 hx)]; simp
  | x :: l, p, h => by
    rw [sgm]
    split
    · rw [List.filter_append, List.filter_cons, strip_seg l [] (fun x h => nomatch h), ← List.filter_cons]
      have : (srt cccT p).filter spC = [] := by
        rw [List.filter_eq_nil_iff]
        intro y hy
        rw [h y ((srt_perm cccT p).mem_iff.1 hy)]; simp
      rw [this, List.nil_append]
    · rename_i q
      have hx : spC x = false := neu_of fun e => q (by rw [noC, decide_eq_true e])
      rw [strip_seg l _ fun y hy => ?_, List.filter_cons_of_neg (by simp [hx])]
      rcases List.mem_append.1 hy with g | g
      · exact h y g
      · rw [List.mem_singleton.1 g]; exact hx
theorem take_snoc (X : List Int) {i : Nat} (h : i < X.length) : X.take (i + 1) = X.take i ++ [at0 X i] := by
  have := take_succ_map (fun x : Int => x) X h
  simpa [at0] using this
theorem rowT_at {X : List Int} {i : Nat} (h : rowT X i = true) : 2 ≤ i ∧ at0 X i = 1600 ∧ at0 X (i - 1) = 1600 ∧ at0 X (i - 2) = 1600 := by
  simpa [rowT] using h
theorem strip_nrw (X : List Int) : ∀ i, i ≤ X.length → (nrw X i).filter spC = (X.take i).filter spC
  | 0, _ => by simp [nrw]
  | i + 1, h => by
    have ih := strip_nrw X i (by omega)
    rw [take_snoc X (by omega), List.filter_append, nrw]
    split
    · rename_i q
      have hx : spC (at0 X i) = false := by
        cases g : spC (at0 X i)
        · rfl
        · exact absurd (rowT_at q).2.1 (sp_ok g).2.2
      rw [ih, List.filter_cons_of_neg (by simp [hx]), List.filter_nil, List.append_nil]
    · rw [List.filter_append, ih]
theorem mend_gq (X : List Int) : GQ (mendT X) := by
  have h := (gq_iff (evenX X) []).2 (evenX_gq X)
  refine (gq_iff (mendT X) []).1 ?_
  rw [gq_strip] at h ⊢
  rw [mendT, strip_nrw _ _ (Nat.le_refl _), List.take_length, backX, ordT_seg, strip_seg _ [] (fun x h => nomatch h), strip_flat]
  exact h
/-! ### Forms -/
theorem nrw_mem (X : List Int) : ∀ i, i ≤ X.length → ∀ x ∈ nrw X i, x ∈ X
  | 0, _, x, h => by simp [nrw] at h
  | i + 1, hi, x, h => by
    rw [nrw] at h
    split at h
    · exact nrw_mem X i (by omega) x h
    · rcases List.mem_append.1 h with g | g
      · exact nrw_mem X i (by omega) x g
      · rw [List.mem_singleton.1 g]; exact get_mem X (by omega)
theorem mend_pres (X : List Int) : ∀ x ∈ mendT X, presB x = true → x = 65139 := by
  intro x hx hp
  have h1 := nrw_mem _ _ (Nat.le_refl _) x hx
  rw [backX] at h1
  obtain ⟨c, -, hc⟩ := List.mem_flatMap.1 ((ordT_perm cccT _).mem_iff.1 h1)
  rcases back_cases c with h | ⟨e, h⟩
  · have := h x hc
    rw [okP, hp] at this
    simp at this
  · rw [e] at hc
    have := List.mem_singleton.1 hc
    subst this
    exact h hp
/-! ### The order of marks, and rows -/
theorem ord_adj (f : Int → Int) : ∀ (X : List Int), ordB f X = true → ∀ j, 0 < j → j < X.length → befT f (at0 X (j - 1)) (at0 X j) = true
  | [], _, j, _, h => by simp at h
  | [x], _, j, h0, h => by simp at h; omega
  | x :: y :: l, ho, j, h0, hj => by
    rw [ordB, Bool.and_eq_true] at ho
    by_cases e : j = 1
    · subst e; exact ho.1
    · have := ord_adj f (y :: l) ho.2 (j - 1) (by omega) (by simp at hj ⊢; omega)
      obtain ⟨m, rfl⟩ : ∃ m, j = m + 2 := ⟨j - 2, by omega⟩
      exact this
theorem nrw_last (X : List Int) : ∀ i, 0 < i → i ≤ X.length → ∃ A, nrw X i = A ++ [at0 X (i - 1)]
  | 0, h, _ => absurd h (by omega)
  | i + 1, _, hi => by
    rw [nrw]
    split
    · rename_i q
      obtain ⟨a, b, c, d⟩ := rowT_at q
      obtain ⟨A, hA⟩ := nrw_last X i (by omega) (by omega)
      exact ⟨A, by rw [hA, Nat.add_sub_cancel, b, c]⟩
    · exact ⟨_, rfl⟩
theorem at_snoc (A : List Int) (x : Int) : at0 (A ++ [x]) A.length = x := by simp [at0, List.getD]
theorem at_left {A : List Int} (B : List Int) {j : Nat} (h : j < A.length) : at0 (A ++ B) j = at0 A j := by
  rw [at0, at0, List.getD, List.getD, List.getElem?_append_left h]
theorem nrw_end (X : List Int) {i : Nat} (h0 : 0 < i) (hi : i ≤ X.length) : 0 < (nrw X i).length ∧ at0 (nrw X i) ((nrw X i).length - 1) = at0 X (i - 1) := by
  obtain ⟨A, e⟩ := nrw_last X i h0 hi
  rw [e, List.length_append]
  exact ⟨by simp, at_snoc A _⟩
theorem nrw_adj (f : Int → Int) (X : List Int) (ho : ordB f X = true) : ∀ i, i ≤ X.length → ∀ j, 0 < j → j < (nrw X i).length → befT f (at0 (nrw X i) (j - 1)) (at0 (nrw X i) j) = true
  | 0, _, j, _, h => by simp [nrw] at h
  | i + 1, hi, j, h0, hj => by
    have ih := nrw_adj f X ho i (by omega)
    rw [nrw] at hj ⊢
    split
    · rename_i q
      rw [if_pos q] at hj
      exact ih j h0 hj
    · rename_i q
      rw [if_neg q, List.length_append, List.length_singleton] at hj
      rcases Nat.lt_or_ge j (nrw X i).length with g | g
      · rw [at_left _ g, at_left _ (by omega)]; exact ih j h0 g
      · have e : j = (nrw X i).length := by omega
        have hp : 0 < i := by
          rcases Nat.eq_zero_or_pos i with z | z
          · rw [z] at e; simp [nrw] at e; omega
          · exact z
        obtain ⟨b1, b2⟩ := nrw_end X hp (by omega)
        rw [e, at_snoc, at_left _ (by omega), b2]
        exact ord_adj f X ho i hp (by omega)
theorem nrw_two (X : List Int) : ∀ i, i ≤ X.length → 2 ≤ (nrw X i).length → at0 (nrw X i) ((nrw X i).length - 1) = 1600 → at0 (nrw X i) ((nrw X i).length - 2) = 1600 → 2 ≤ i ∧ at0 X (i - 1) = 1600 ∧ at0 X (i - 2) = 1600
  | 0, _, h, _, _ => by simp [nrw] at h
  | i + 1, hi, h, h1, h2 => by
    rw [nrw] at h h1 h2
    split at h
    · rename_i q
      obtain ⟨a, b, c, d⟩ := rowT_at q
      exact ⟨by omega, b, c⟩
    · rename_i q
      rw [if_neg q, List.length_append, List.length_singleton, Nat.add_sub_cancel, at_snoc] at h1
      rw [List.length_append, List.length_singleton] at h
      rw [if_neg q, List.length_append, List.length_singleton, at_left _ (by omega), show (nrw X i).length + 1 - 2 = (nrw X i).length - 1 by omega] at h2
      have hp : 0 < i := by
        rcases Nat.eq_zero_or_pos i with z | z
        · rw [z] at h; simp [nrw] at h
        · exact z
      rw [(nrw_end X hp (by omega)).2] at h2
      exact ⟨by omega, h1, h2⟩
theorem nrw_row (X : List Int) : ∀ i, i ≤ X.length → ∀ j, j < (nrw X i).length → rowT (nrw X i) j = false
  | 0, _, j, h => by simp [nrw] at h
  | i + 1, hi, j, hj => by
    have ih := nrw_row X i (by omega)
    rw [nrw] at hj ⊢
    split
    · rename_i q
      rw [if_pos q] at hj
      exact ih j hj
    · rename_i q
      rw [if_neg q, List.length_append, List.length_singleton] at hj
      rcases Nat.lt_or_ge j (nrw X i).length with g | g
      · have := ih j g
        unfold rowT at this ⊢
        rw [at_left _ g, at_left _ (show j - 1 < (nrw X i).length by omega), at_left _ (show j - 2 < (nrw X i).length by omega)]
        exact this
      · have e : j = (nrw X i).length := by omega
        cases r : rowT (nrw X i ++ [at0 X i]) j
        · rfl
        · exfalso
          obtain ⟨a, b, c, d⟩ := rowT_at r
          rw [e] at a
          rw [e, at_snoc] at b
          rw [e, at_left _ (by omega)] at c d
          obtain ⟨t1, t2, t3⟩ := nrw_two X i (by omega) a c d
          apply q
          rw [rowT, decide_eq_true t1, decide_eq_true b, decide_eq_true t2, decide_eq_true t3]; rfl
/-! ### A text that is mended -/
theorem mend_kinds (X : List Int) (s : Int × Int) (hs : s ∈ splitT (mendT X)) (i : Nat) (hi : i < (mendT X).length) (k : Int) (hk : k = 3 ∨ k = 6 ∨ k = 8) : kindT cccT (mendT X) s k i = false := by
  rcases hk with rfl | rfl | rfl
  · have := (good_walk (gq_cut (mend_gq X) s hs)).2
    rw [kindT, if_neg (by decide), if_neg (by decide), if_pos rfl, this]; simp
  · rw [kindT, if_neg (by decide), if_neg (by decide), if_neg (by decide), if_neg (by decide), if_neg (by decide), if_pos rfl, behT]
    by_cases h0 : 0 < i
    · have ho : ordB cccT (backX X) = true := ordT_ordB cccT (fun c => (ccc_in c).1) _
      rw [mendT, nrw_adj cccT _ ho _ (Nat.le_refl _) i h0 hi]; simp
    · rw [decide_eq_false h0]; rfl
  · have := nrw_row (backX X) _ (Nat.le_refl _) i hi
    exact this
theorem mend_finds (X : List Int) : ∀ x ∈ findsT cccT (mendT X), x.2 ≠ 3 ∧ x.2 ≠ 6 ∧ x.2 ≠ 8 := by
  intro x hx
  obtain ⟨s, hs, hm⟩ := List.mem_flatMap.1 hx
  obtain ⟨g1, g2, g3⟩ := split_in _ s hs
  obtain ⟨i, h1, h2, h3⟩ := fpt_mem _ _ _ _ _ hm
  have hi : i < (mendT X).length := by omega
  refine ⟨fun e => ?_, fun e => ?_, fun e => ?_⟩
  · rw [mend_kinds X s hs i hi _ (.inl e)] at h3; cases h3
  · rw [mend_kinds X s hs i hi _ (.inr (.inl e))] at h3; cases h3
  · rw [mend_kinds X s hs i hi _ (.inr (.inr e))] at h3; cases h3
end Go.Proofs.YtcgaphmndnmfdaaGreat
