/-
  Spans and how many: plain.
-/
import Derived.Test.YthoggjdkabhpkaaPk7
import Derived.Test.YthoggjdkabhpkaaPk8
namespace Go.Proofs.Ythoggjdkabhpkaa
open Go.Pm
set_option maxRecDepth 100000
set_option linter.unusedSimpArgs false
set_option linter.unusedVariables false

def sumS (L : List (Int × Int)) : Int := (L.map fun q => q.2 - q.1).sum
theorem sumS_app (L M : List (Int × Int)) : sumS (L ++ M) = sumS L + sumS M := by simp [sumS]
theorem spnI_in (B : List Bool) : ∀ i, sumS (spnI B i) = (trues B i).length ∧ ∀ q ∈ spnI B i, 0 ≤ q.1 ∧ q.1 < q.2 ∧ q.2 ≤ (i : Int) ∧ ∀ k : Nat, q.1 ≤ (k : Int) → (k : Int) < q.2 → B.getD k default = true
  | 0 => ⟨rfl, fun q h => (nomatch h)⟩
  | i + 1 => by
    obtain ⟨h1, h2⟩ := spnI_in B i
    obtain ⟨o1, -, -⟩ := spnI_ok B i
    rw [spnI, trues]
    by_cases hb : B.getD i default = true
    · rw [if_pos hb, if_pos hb]
      by_cases q : 0 < i ∧ B.getD (i - 1) default = true
      · rw [if_pos q]
        obtain ⟨L, p, e, e2⟩ := o1 q
        rw [e] at h1 h2
        rw [e, upL_app]
        rw [sumS_app] at h1 ⊢
        refine ⟨?_, fun r hr => ?_⟩
        · simp [sumS] at h1 ⊢; omega
        · rcases List.mem_append.1 hr with hr | hr
          · obtain ⟨a1, a2, a3, a4⟩ := h2 r (by simp [hr])
            exact ⟨a1, a2, by omega, a4⟩
          · obtain ⟨a1, a2, a3, a4⟩ := h2 p (by simp)
            rw [List.mem_singleton.1 hr]
            refine ⟨a1, by simp only []; omega, by simp only []; omega, fun k k1 k2 => ?_⟩
            by_cases hk : k = i
            · rw [hk]; exact hb
            · exact a4 k k1 (by simp only [] at k2; omega)
      · rw [if_neg q]
        rw [sumS_app]
        refine ⟨?_, fun r hr => ?_⟩
        · simp [sumS] at h1 ⊢; omega
        · rcases List.mem_append.1 hr with hr | hr
          · obtain ⟨a1, a2, a3, a4⟩ := h2 r hr
            exact ⟨a1, a2, by omega, a4⟩
          · rw [List.mem_singleton.1 hr]
            refine ⟨by simp only []; omega, by simp only []; omega, by simp only []; omega, fun k k1 k2 => ?_⟩
            have : k = i := by simp only [] at k1 k2; omega
            rw [this]; exact hb
    · rw [if_neg hb, if_neg hb]
      exact ⟨h1, fun r hr => by obtain ⟨a1, a2, a3, a4⟩ := h2 r hr; exact ⟨a1, a2, by omega, a4⟩⟩
theorem trues_count (B : List Bool) : ∀ i, i ≤ B.length → (trues B i).length = (B.take i).countP id
  | 0, _ => rfl
  | i + 1, hi => by
    have ih := trues_count B i (by omega)
    have e : B.take (i + 1) = B.take i ++ [B.getD i default] := by
      have := take_succ_map (fun x : Bool => x) B (i := i) (by omega)
      simpa using this
    rw [trues, e, List.countP_append]
    cases hb : B.getD i default
    · simp [ih]
    · simp [ih]
theorem rng_count (lo hi : Nat) : ∀ n : Nat, (rng n).countP (fun x => decide ((lo : Int) ≤ x ∧ x < (hi : Int))) = min n hi - min n lo
  | 0 => by simp [rng]
  | n + 1 => by
    rw [rng_succ, List.countP_append, rng_count lo hi n]
    by_cases h : lo ≤ n ∧ n < hi
    · simp [h]; omega
    · have : ¬ ((lo : Int) ≤ (n : Int) ∧ (n : Int) < (hi : Int)) := by omega
      simp only [List.countP_cons, List.countP_nil, this, decide_false, Bool.false_eq_true, if_false]; omega
theorem seen_count {o : List Int} {n lo hi : Nat} (h : o.Perm (rng n)) (h1 : lo ≤ hi) (h2 : hi ≤ n) : (trues (seenB o ((lo : Int), (hi : Int))) (seenB o ((lo : Int), (hi : Int))).length).length = hi - lo := by
  rw [trues_count _ _ (Nat.le_refl _), List.take_length, seenB, List.countP_map]
  have e : (id ∘ fun x => hasB x ((lo : Int), (hi : Int))) = fun x => decide ((lo : Int) ≤ x ∧ x < (hi : Int)) := rfl
  rw [e, h.countP_eq, rng_count]
  omega
theorem pick_count {o : List Int} {n lo hi : Nat} (h : o.Perm (rng n)) (h1 : lo ≤ hi) (h2 : hi ≤ n) : (trues (pickB o ((lo : Int), (hi : Int))) (pickB o ((lo : Int), (hi : Int))).length).length = hi - lo := by
  obtain ⟨hl, hp⟩ := perm_order h
  rw [pickB_len, ← sort_trues hp, List.length_mergeSort]
  simp [cutP2]
  omega
end Go.Proofs.Ythoggjdkabhpkaa
