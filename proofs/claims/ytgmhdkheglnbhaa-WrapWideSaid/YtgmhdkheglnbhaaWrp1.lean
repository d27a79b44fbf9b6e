/-
  Where lines end: the package wrap.
  Conditions: none but those that each sentence tells.
-/
import Derived.Test.YtgmhdkheglnbhaaPara4
import Derived.Test.YtgmhdkheglnbhaaBrk1
import Derived.Test.YtgmhdkheglnbhaaProps3
import Derived.Test.YtgmhdkheglnbhaaWidR
namespace Go.Proofs.Ytgmhdkheglnbhaa
open Go.Pm
set_option maxRecDepth 100000
set_option linter.unusedSimpArgs false
set_option linter.unusedVariables false

/-! ### Plainly -/
def begB (P : List (Int × Int)) (at_ : Int) : Bool := P.any fun p => decide (p.1 = at_)
def spT (c : Int) : Bool := decide (classT c = 12) || decide (classT c = 10)
/-- May a line end at a place? -/
def mayW (X : List Int) (at_ : Nat) : Bool :=
  (decide (classT (X.getD (at_ - 1) default) = 12) && (!decide (classT (X.getD at_ default) = 12) && !decide (classT (X.getD at_ default) = 8))) || begB (splitT X) at_
/-- How many codes stay ahead of the spaces at the end. -/
def trimL (Y : List Int) : Nat → Nat
  | 0 => 0
  | m + 1 => if spT (Y.getD m default) then trimL Y m else m + 1
theorem trimL_le (Y : List Int) : ∀ m, trimL Y m ≤ m
  | 0 => Nat.le_refl _
  | m + 1 => by
    have := trimL_le Y m
    unfold trimL; split <;> omega
def cellsL (Y : List Int) : Int := sumW (Y.take (trimL Y Y.length))
def cutX (X : List Int) (lo hi : Nat) : List Int := (X.drop lo).take (hi - lo)
theorem cutX_len (X : List Int) {lo hi : Nat} (h : hi ≤ X.length) : (cutX X lo hi).length = hi - lo := by unfold cutX; rw [List.length_take, List.length_drop]; omega
theorem cutX_get (X : List Int) {lo hi m : Nat} (h : lo + m < hi) (h2 : hi ≤ X.length) : (cutX X lo hi).getD m default = X.getD (lo + m) default := by
  unfold cutX
  rw [List.getD, List.getD, List.getElem?_take, if_pos (by omega), List.getElem?_drop]
/-- Where the paragraph ends. -/
structure Lim (X : List Int) (lo L : Nat) : Prop where
  lt : lo < L
  le : L ≤ X.length
  beg : L = X.length ∨ begB (splitT X) L = true
  no : ∀ j : Nat, lo < j → j < L → begB (splitT X) j = false
theorem Lim.one {X : List Int} {lo L M : Nat} (a : Lim X lo L) (b : Lim X lo M) : L = M := by
  rcases Nat.lt_trichotomy L M with h | h | h
  · rcases a.beg with e | e
    · have := b.le; omega
    · rw [b.no L a.lt h] at e; cases e
  · exact h
  · rcases b.beg with e | e
    · have := a.le; omega
    · rw [a.no M b.lt h] at e; cases e
def limT (X : List Int) (lo : Nat) : Nat → Nat
  | 0 => X.length
  | k + 1 => if begB (splitT X) ((X.length - (k + 1) : Nat) : Int) then X.length - (k + 1) else limT X lo k
theorem limT_spec (X : List Int) (lo : Nat) : ∀ k, k ≤ X.length → X.length - k ≤ limT X lo k ∧ limT X lo k ≤ X.length ∧ (limT X lo k = X.length ∨ begB (splitT X) (limT X lo k) = true) ∧ ∀ j : Nat, X.length - k ≤ j → j < limT X lo k → begB (splitT X) j = false
  | 0, _ => ⟨by simp [limT], by simp [limT], .inl rfl, fun j h1 h2 => by simp [limT] at h2; omega⟩
  | k + 1, hk => by
    have ih := limT_spec X lo k (by omega)
    unfold limT
    by_cases h : begB (splitT X) ((X.length - (k + 1) : Nat) : Int) = true
    · rw [if_pos h]
      exact ⟨Nat.le_refl _, by omega, .inr h, fun j h1 h2 => by omega⟩
    · rw [if_neg h]
      refine ⟨by omega, ih.2.1, ih.2.2.1, fun j h1 h2 => ?_⟩
      rcases Nat.lt_or_ge j (X.length - k) with e | e
      · have : j = X.length - (k + 1) := by omega
        rw [this]; simpa using h
      · exact ih.2.2.2 j e h2
def lim (X : List Int) (lo : Nat) : Nat := limT X lo (X.length - (lo + 1))
theorem lim_is (X : List Int) {lo : Nat} (h : lo < X.length) : Lim X lo (lim X lo) := by
  have := limT_spec X lo (X.length - (lo + 1)) (by omega)
  exact ⟨by unfold lim; omega, this.2.1, this.2.2.1, fun j h1 h2 => this.2.2.2 j (by omega) h2⟩
/-- The greatest place up to which a line is not too wide. -/
def whl (X : List Int) (lo L : Nat) (most : Int) : Nat → Option Nat
  | 0 => none
  | a + 1 => if lo < a + 1 then (if (decide (a + 1 = L) || mayW X (a + 1)) && decide (cellsL (cutX X lo (a + 1)) ≤ most) then some (a + 1) else whl X lo L most a) else none
def nsmF (X : List Int) (L : Nat) : Nat → Nat → Nat
  | 0, a => a
  | k + 1, a => if a < L ∧ classT (X.getD a default) = 8 then nsmF X L k (a + 1) else a
def endT (X : List Int) (lo : Nat) (most : Int) : Nat :=
  match whl X lo (lim X lo) most (lim X lo) with
  | some a => a
  | none => nsmF X (lim X lo) (X.length + 1) (lo + (max (fitW (cutX X lo (lim X lo)) most) 1).toNat)
theorem whl_in (X : List Int) (lo L : Nat) (most : Int) : ∀ (k a : Nat), whl X lo L most k = some a → lo < a ∧ a ≤ k
  | 0, a, h => by cases h
  | k + 1, a, h => by
    unfold whl at h
    split at h
    · split at h
      · cases h; omega
      · have := whl_in X lo L most k a h; omega
    · cases h
theorem nsmF_in (X : List Int) (L : Nat) : ∀ (k a : Nat), a ≤ nsmF X L k a ∧ (a ≤ L → nsmF X L k a ≤ L)
  | 0, a => ⟨Nat.le_refl _, fun h => h⟩
  | k + 1, a => by
    unfold nsmF
    split
    · have := nsmF_in X L k (a + 1); omega
    · exact ⟨Nat.le_refl _, fun h => h⟩
theorem fitW_in (l : List Int) (most : Int) : 0 ≤ fitW l most ∧ fitW l most ≤ l.length := by
  unfold fitW
  split
  · omega
  · have := (fit_spec l most (by omega)).1; omega
theorem endT_in (X : List Int) {lo : Nat} (h : lo < X.length) (most : Int) : lo < endT X lo most ∧ endT X lo most ≤ lim X lo := by
  have hl := lim_is X h
  unfold endT
  split
  · rename_i a e
    have := whl_in _ _ _ _ _ _ e
    omega
  · have hf := fitW_in (cutX X lo (lim X lo)) most
    rw [cutX_len X hl.le] at hf
    have := nsmF_in X (lim X lo) (X.length + 1) (lo + (max (fitW (cutX X lo (lim X lo)) most) 1).toNat)
    have := hl.lt
    omega
/-- Where lines end. -/
def brkF (X : List Int) (most : Int) : Nat → Nat → List Int
  | 0, _ => []
  | k + 1, a => if a < X.length then (if endT X a most < X.length then (endT X a most : Int) :: brkF X most k (endT X a most) else []) else []
def brkT2 (X : List Int) (most : Int) : List Int := brkF X most (X.length + 1) 0
end Go.Proofs.Ytgmhdkheglnbhaa
