/-
  How wide lines are, plainly.
  Conditions: none but those that each sentence tells.
-/
import Derived.Test.YtgmhdkheglnbhaaWrp6
namespace Go.Proofs.Ytgmhdkheglnbhaa
open Go.Pm
set_option maxRecDepth 100000
set_option linter.unusedSimpArgs false
set_option linter.unusedVariables false

theorem brk_rises (X : List Int) (most : Int) : ∀ (k a : Nat), risesB X.length a (brkF X most k a) = true
  | 0, a => rfl
  | k + 1, a => by
    unfold brkF
    split
    · rename_i hlt
      have hE := endT_in X hlt most
      split
      · rename_i hc
        have ih := brk_rises X most k (endT X a most)
        rw [risesB, ih, decide_eq_false (show ¬ (endT X a most : Int) ≤ a by omega), decide_eq_false (show ¬ (X.length : Int) ≤ (endT X a most : Int) by omega)]
        rfl
      · rfl
    · rfl
theorem sumW_take (l : List Int) (k : Nat) : sumW (l.take k) ≤ sumW l := by
  have e := sumW_app (l.take k) (l.drop k)
  rw [List.take_append_drop] at e
  have := (sumW_le (l.drop k)).1
  omega
theorem cutX_succ (X : List Int) {lo a : Nat} (h : lo ≤ a) (ha : a < X.length) : cutX X lo (a + 1) = cutX X lo a ++ [X.getD a default] := by
  unfold cutX
  rw [show a + 1 - lo = (a - lo) + 1 by omega]
  have h2 : a - lo < (X.drop lo).length := by rw [List.length_drop]; omega
  have := take_succ_map (fun x : Int => x) (X.drop lo) h2
  simp only [List.map_id'] at this
  rw [this]
  congr 2
  rw [List.getD, List.getD, List.getElem?_drop, show lo + (a - lo) = a by omega]
theorem sumW_nsm (X : List Int) (lo L : Nat) (hL : L ≤ X.length) : ∀ (k a : Nat), lo ≤ a → a ≤ L → sumW (cutX X lo (nsmF X L k a)) = sumW (cutX X lo a)
  | 0, a, _, _ => rfl
  | k + 1, a, h, h2 => by
    unfold nsmF
    split
    · rename_i hc
      rw [sumW_nsm X lo L hL k (a + 1) (by omega) (by omega), cutX_succ X h (by omega), sumW_app]
      have hm : markT (X.getD a default) = true := by rw [markT, hc.2]; rfl
      have : sumW [X.getD a default] = 0 := by simp only [sumW, List.map_cons, List.map_nil, widthT, hm, Bool.true_or, if_true]; rfl
      omega
    · rfl
theorem whl_fit (X : List Int) (lo L : Nat) (most : Int) : ∀ (k a : Nat), whl X lo L most k = some a → cellsL (cutX X lo a) ≤ most
  | 0, a, h => by cases h
  | k + 1, a, h => by
    unfold whl at h
    split at h
    · split at h
      · rename_i hc
        cases h
        rw [Bool.and_eq_true, decide_eq_true_eq] at hc
        exact hc.2
      · exact whl_fit X lo L most k a h
    · cases h
theorem end_fits (X : List Int) {lo : Nat} (h : lo < X.length) {most : Int} (hm : 1 ≤ most) : cellsL (cutX X lo (endT X lo most)) ≤ most ∨ cellsL (cutX X lo (endT X lo most)) ≤ 2 := by
  have hl := lim_is X h
  unfold endT
  split
  · rename_i a e
    exact .inl (whl_fit _ _ _ _ _ _ e)
  · have hle := hl.le
    have hlt := hl.lt
    generalize lim X lo = L at *
    have hf := fitW_in (cutX X lo L) most
    have hcl := cutX_len X hle (lo := lo)
    rw [hcl] at hf
    have c1 : ∀ Y : List Int, cellsL Y ≤ sumW Y := fun Y => sumW_take _ _
    have hF := fit_spec (cutX X lo L) most (by omega)
    have efit : fitW (cutX X lo L) most = fitR (cutX X lo L) most := by unfold fitW; rw [if_neg (by omega)]
    rw [efit] at hf ⊢
    generalize fitR (cutX X lo L) most = F at *
    have hs := sumW_nsm X lo L hle (X.length + 1) (lo + (max (F : Int) 1).toNat) (by omega) (by omega)
    have hc := c1 (cutX X lo (nsmF X L (X.length + 1) (lo + (max (F : Int) 1).toNat)))
    rw [hs] at hc
    rcases Nat.eq_zero_or_pos F with e | e
    · subst e
      rw [show lo + (max ((0 : Nat) : Int) 1).toNat = lo + 1 by omega] at hc ⊢
      have := (sumW_le (cutX X lo (lo + 1))).2
      rw [cutX_len X (by omega)] at this
      right; omega
    · rw [show lo + (max (F : Int) 1).toNat = lo + F by omega] at hc ⊢
      rw [cutX_take X (by omega)] at hF
      left; omega
theorem lines_fit (X : List Int) {most : Int} (hm : 1 ≤ most) : ∀ (k a : Nat), a < X.length → X.length - a < k → ∀ s ∈ cuts X.length a (brkF X most k a), ∃ lo hi : Nat, s = ((lo : Int), (hi : Int)) ∧ lo < hi ∧ hi ≤ X.length ∧ (cellsL (cutX X lo hi) ≤ most ∨ cellsL (cutX X lo hi) ≤ 2)
  | 0, a, _, h, s, hs => by omega
  | k + 1, a, ha, h, s, hs => by
    have hE := endT_in X ha most
    have hL := (lim_is X ha).le
    have hf := end_fits X ha hm
    rw [brkF, if_pos ha] at hs
    by_cases c : endT X a most < X.length
    · rw [if_pos c, cuts] at hs
      rcases List.mem_cons.1 hs with rfl | hs
      · exact ⟨a, _, rfl, hE.1, by omega, hf⟩
      · exact lines_fit X hm k _ c (by omega) s hs
    · rw [if_neg c, cuts] at hs
      have e : endT X a most = X.length := by omega
      rw [e] at hf
      rcases List.mem_cons.1 hs with rfl | hs
      · exact ⟨a, _, rfl, ha, Nat.le_refl _, hf⟩
      · cases hs
end Go.Proofs.Ytgmhdkheglnbhaa
