/-
  The smallest parts in which spans lie whole, in plain Lean: what the code gathers is what the document says.
  Conditions: none but those that each sentence tells.
-/
import Derived.Test.YtaaokbmcmoihhaaSpan3
namespace Go.Proofs.Ytaaokbmcmoihhaa
open Go.Pm
set_option maxRecDepth 100000
set_option linter.unusedSimpArgs false
set_option linter.unusedVariables false

/-- Is a place between parts: does no span lie across it? -/
def partedB (n : Int) (l : List (Int × Int)) (at_ : Int) : Bool := l.all fun p => !(decide (0 ≤ p.1 ∧ p.1 < p.2) && (decide (p.2 ≤ n) && (decide (p.1 < at_) && decide (at_ < p.2))))
/-- The places below `k` that are between parts. -/
def posB (n : Int) (l : List (Int × Int)) (k : Nat) : List Int := ((List.range k).filter fun i : Nat => decide (1 ≤ i) && partedB n l (i : Int)).map fun i : Nat => (i : Int)
def cutL : Int → List Int → List (Int × Int)
  | _, [] => []
  | lo, n :: l => (lo, n) :: cutL n l
def lastP : Int → List Int → Int
  | lo, [] => lo
  | _, n :: l => lastP n l
theorem cuts_eq (hi : Int) : ∀ (lo : Int) (l : List Int), cuts hi lo l = cutL lo l ++ [(lastP lo l, hi)]
  | lo, [] => rfl
  | lo, n :: l => by simp [cuts, cutL, lastP, cuts_eq hi n l]
theorem cutL_snoc (x : Int) : ∀ (lo : Int) (l : List Int), cutL lo (l ++ [x]) = cutL lo l ++ [(lastP lo l, x)]
  | lo, [] => rfl
  | lo, n :: l => by simp [cutL, lastP, cutL_snoc x n l]
theorem lastP_snoc (x : Int) : ∀ (lo : Int) (l : List Int), lastP lo (l ++ [x]) = x
  | lo, [] => rfl
  | lo, n :: l => by simp [lastP, lastP_snoc x n l]
theorem posB_succ (n : Int) (l : List (Int × Int)) (k : Nat) : posB n l (k + 1) = if 1 ≤ k ∧ partedB n l k = true then posB n l k ++ [(k : Int)] else posB n l k := by
  simp only [posB, List.range_succ, List.filter_append, List.map_append, List.filter_cons, List.filter_nil]
  by_cases h : 1 ≤ k ∧ partedB n l k = true
  · simp [h.1, h.2]
  · by_cases h1 : 1 ≤ k
    · have : partedB n l k = false := by simpa [h1] using h
      simp [h1, this]
    · simp [h1]
def grpB (n : Int) (l : List (Int × Int)) : List (Int × Int) := if n < 1 then [] else cuts n 0 (posB n l n.toNat)
theorem posB_rises (n : Int) (l : List (Int × Int)) (hi : Int) : ∀ k : Nat, (k : Int) ≤ hi → ∀ lo : Int, lo ≤ 0 → risesB hi lo (posB n l k) = true ∧ (lastP lo (posB n l k) < k ∨ lastP lo (posB n l k) = lo) := by
  have snoc : ∀ (ps : List Int) (lo x : Int), risesB hi lo ps = true → lastP lo ps < x → x < hi → risesB hi lo (ps ++ [x]) = true := by
    intro ps
    induction ps with
    | nil => intro lo x _ h1 h2; simp only [lastP] at h1; simp [risesB]; omega
    | cons p ps ih =>
      intro lo x h h1 h2
      simp only [risesB, Bool.and_eq_true, List.cons_append] at h ⊢
      exact ⟨h.1, h.2.1, ih p x h.2.2 h1 h2⟩
  intro k
  induction k with
  | zero => intro _ lo _; exact ⟨rfl, .inr rfl⟩
  | succ k ih =>
    intro hk lo hl
    obtain ⟨h1, h2⟩ := ih (by omega) lo hl
    rw [posB_succ]
    split
    · rename_i hp
      refine ⟨snoc _ _ _ h1 ?_ (by omega), .inl (by rw [lastP_snoc]; omega)⟩
      rcases h2 with h2 | h2
      · exact h2
      · rw [h2]; omega
    · exact ⟨h1, h2.imp (fun h => by omega) id⟩
theorem grpB_parts (n : Int) (l : List (Int × Int)) (h : 0 ≤ n) : partsB 0 (grpB n l) n = true := by
  unfold grpB
  split
  · have : n = 0 := by omega
    subst this; rfl
  · exact cuts_parts n 0 _ (Int.le_refl _) (by omega) (posB_rises n l n n.toNat (by omega) 0 (Int.le_refl _)).1
theorem partedB_rev (n : Int) (l : List (Int × Int)) (a : Int) : partedB n l.reverse a = partedB n l a := by simp [partedB]
theorem grpB_rev (n : Int) (l : List (Int × Int)) : grpB n l.reverse = grpB n l := by simp only [grpB, posB, partedB_rev]
theorem grpB_len (n : Int) (l : List (Int × Int)) (h : n ≤ 1000000) : (grpB n l).length ≤ 1000001 := by
  unfold grpB
  split
  · simp
  · rw [cuts_len]
    have : (posB n l n.toNat).length ≤ n.toNat := by
      simp only [posB, List.length_map]
      exact Nat.le_trans (List.length_filter_le _ _) (by simp)
    omega

/-- How far spans go that begin at each place. -/
def reachS (n : Int) (r : List Int) (p : Int × Int) : List Int :=
  if 0 ≤ p.1 ∧ p.1 < p.2 then (if p.2 ≤ n then r.set p.1.toNat (if r.getD p.1.toNat 0 < p.2 then p.2 else r.getD p.1.toNat 0) else r) else r
theorem reachS_len (n : Int) (r : List Int) (p : Int × Int) : (reachS n r p).length = r.length := by
  unfold reachS; split <;> (try split) <;> simp
theorem reach_len (n : Int) : ∀ (l : List (Int × Int)) (r : List Int), (l.foldl (reachS n) r).length = r.length
  | [], r => rfl
  | p :: l, r => by rw [List.foldl_cons, reach_len n l, reachS_len]
theorem reachS_le (n : Int) (r : List Int) (p : Int × Int) (j : Nat) (hj : j < r.length) (x : Int) :
    (reachS n r p).getD j 0 ≤ x ↔ r.getD j 0 ≤ x ∧ (0 ≤ p.1 → p.1 < p.2 → p.2 ≤ n → p.1 = j → p.2 ≤ x) := by
  unfold reachS
  split
  · split
    · rename_i h1 h2
      by_cases e : p.1.toNat = j
      · subst e
        have : (r.set p.1.toNat (if r.getD p.1.toNat 0 < p.2 then p.2 else r.getD p.1.toNat 0)).getD p.1.toNat 0 = (if r.getD p.1.toNat 0 < p.2 then p.2 else r.getD p.1.toNat 0) := by
          simp only [List.getD, List.getElem?_set_self hj, Option.getD_some]
        rw [this]
        have e2 : p.1 = (p.1.toNat : Int) := by omega
        split <;> constructor <;> intro h
        · exact ⟨by omega, fun _ _ _ _ => h⟩
        · exact h.2 h1.1 h1.2 h2 e2
        · exact ⟨h, fun _ _ _ _ => by omega⟩
        · exact h.1
      · have : (r.set p.1.toNat (if r.getD p.1.toNat 0 < p.2 then p.2 else r.getD p.1.toNat 0)).getD j 0 = r.getD j 0 := by
          simp only [List.getD, List.getElem?_set_ne e]
        rw [this]
        exact ⟨fun h => ⟨h, fun _ _ _ e' => by omega⟩, fun h => h.1⟩
    · rename_i h1 h2
      exact ⟨fun h => ⟨h, fun _ _ q => absurd q h2⟩, fun h => h.1⟩
  · rename_i h1
    exact ⟨fun h => ⟨h, fun a b => absurd ⟨a, b⟩ h1⟩, fun h => h.1⟩
theorem reach_le (n : Int) : ∀ (l : List (Int × Int)) (r : List Int) (j : Nat), j < r.length → ∀ x : Int,
    ((l.foldl (reachS n) r).getD j 0 ≤ x ↔ r.getD j 0 ≤ x ∧ ∀ p ∈ l, 0 ≤ p.1 → p.1 < p.2 → p.2 ≤ n → p.1 = j → p.2 ≤ x)
  | [], r, j, hj, x => by simp
  | p :: l, r, j, hj, x => by
    rw [List.foldl_cons, reach_le n l _ j (by rw [reachS_len]; exact hj), reachS_le n r p j hj]
    simp only [List.mem_cons, forall_eq_or_imp, and_assoc]
def maxL (r : List Int) : Int := r.foldl max 0
theorem maxL_snoc (r : List Int) (x : Int) : maxL (r ++ [x]) = max (maxL r) x := by simp [maxL]
theorem maxL_le : ∀ (r : List Int) (x : Int), maxL r ≤ x ↔ 0 ≤ x ∧ ∀ j, j < r.length → r.getD j 0 ≤ x := by
  have : ∀ (r : List Int) (a x : Int), r.foldl max a ≤ x ↔ a ≤ x ∧ ∀ j, j < r.length → r.getD j 0 ≤ x := by
    intro r
    induction r with
    | nil => intro a x; simp
    | cons b r ih =>
      intro a x
      rw [List.foldl_cons, ih]
      constructor
      · rintro ⟨h1, h2⟩
        refine ⟨by omega, fun j hj => ?_⟩
        cases j with
        | zero => simp; omega
        | succ j => simpa using h2 j (by simpa using hj)
      · rintro ⟨h1, h2⟩
        refine ⟨?_, fun j hj => by simpa using h2 (j + 1) (by simpa using hj)⟩
        have := h2 0 (by simp)
        simp at this
        omega
  intro r x; exact this r 0 x
theorem maxL_take (r : List Int) (i : Nat) (h : i < r.length) : maxL (r.take (i + 1)) = max (maxL (r.take i)) (r.getD i 0) := by
  rw [List.take_succ_eq_append_getElem h, maxL_snoc]; simp [List.getD, h]
/-- A place is between parts if no span from below it goes beyond it. -/
theorem reach_parted (n : Int) (l : List (Int × Int)) (N : Nat) (hN : n.toNat = N) (i : Nat) (h1 : 1 ≤ i) (h2 : i ≤ N) :
    maxL ((l.foldl (reachS n) (List.replicate N 0)).take i) ≤ i ↔ partedB n l i = true := by
  have hl := reach_len n l (List.replicate N 0)
  rw [List.length_replicate] at hl
  rw [maxL_le]
  simp only [List.length_take, hl, partedB, List.all_eq_true]
  constructor
  · rintro ⟨_, h⟩ p hp
    by_cases c1 : 0 ≤ p.1 ∧ p.1 < p.2
    · by_cases c2 : p.2 ≤ n
      · by_cases c3 : p.1 < i
        · have := h p.1.toNat (by omega)
          have e : (List.take i (l.foldl (reachS n) (List.replicate N 0))).getD p.1.toNat 0 = (l.foldl (reachS n) (List.replicate N 0)).getD p.1.toNat 0 := by
            simp only [List.getD, List.getElem?_take, if_pos (show p.1.toNat < i by omega)]
          rw [e, reach_le n l _ _ (by simp; omega)] at this
          have := this.2 p hp c1.1 c1.2 c2 (by omega)
          simp [c1, c2, c3]; omega
        · simp [c3]
      · simp [c2]
    · have : decide (0 ≤ p.1 ∧ p.1 < p.2) = false := by simpa using c1
      rw [this]; rfl
  · intro h
    refine ⟨by omega, fun j hj => ?_⟩
    have e : (List.take i (l.foldl (reachS n) (List.replicate N 0))).getD j 0 = (l.foldl (reachS n) (List.replicate N 0)).getD j 0 := by
      simp only [List.getD, List.getElem?_take, if_pos (show j < i by omega)]
    rw [e, reach_le n l _ _ (by simp; omega)]
    refine ⟨by simp [List.getD, List.getElem?_replicate]; split <;> simp, fun p hp c1 c2 c3 c4 => ?_⟩
    have := h p hp
    simp only [c1, c2, c3, and_self, decide_true, Bool.true_and, Bool.not_eq_true', Bool.and_eq_false_imp, decide_eq_true_eq, decide_eq_false_iff_not] at this
    have := this (by omega)
    omega
theorem reach_top (n : Int) (l : List (Int × Int)) (N : Nat) (hN : n.toNat = N) (hn : 0 ≤ n) : maxL (l.foldl (reachS n) (List.replicate N 0)) ≤ n := by
  rw [maxL_le]
  refine ⟨hn, fun j hj => ?_⟩
  rw [reach_len] at hj
  rw [reach_le n l _ _ hj]
  refine ⟨by simp [List.getD, List.getElem?_replicate]; split <;> simpa using hn, fun p hp c1 c2 c3 c4 => c3⟩
end Go.Proofs.Ytaaokbmcmoihhaa
