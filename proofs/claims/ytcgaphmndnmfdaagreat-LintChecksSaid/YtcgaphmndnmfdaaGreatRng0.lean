/-
  Ranges of codes with values.
  Conditions: none but those that each sentence tells.
-/
import Derived.Test.YtcgaphmndnmfdaaGreatC
import Derived.Test.YtcgaphmndnmfdaaGreatPmT
namespace Go.Proofs.YtcgaphmndnmfdaaGreat
open Go.Pm
open Nat renaming reduceEqDiff → nE, reduceAdd → nA, reduceMul → nM, reduceLeDiff → nD, reduceLT → nL
open Int renaming reduceLE → iL, reduceLT → iT, reduceEq → iE, reduceToNat → iN, cast_ofNat_Int → iC
set_option maxRecDepth 100000
set_option linter.unusedSimpArgs false
set_option linter.unusedVariables false

abbrev R3 := Int × Int × Int
def r3 (p : R3) : List PV := [.int .i64 p.1, .int .i64 p.2.1, .int .i64 p.2.2]
theorem r3_len (p : R3) : (r3 p).length = 3 := rfl
theorem old_r3 (l : List R3) : olds (l.flatMap r3) = l.flatMap r3 := olds_flat _ _ (fun g => rfl) l
/-- The value of a code in ranges. -/
def getR (l : List R3) (none_ c : Int) : Int := match l.find? (fun r => decide (r.1 ≤ c ∧ c ≤ r.2.1)) with
  | none => none_
  | some r => r.2.2
theorem getR_skip {l : List R3} {n c : Int} (h : ∀ r ∈ l, ¬ (r.1 ≤ c ∧ c ≤ r.2.1)) : getR l n c = n := by
  unfold getR; rw [List.find?_eq_none.2 fun r hr => by simpa using fun a => Int.not_le.1 fun b => h r hr ⟨a, b⟩]
theorem getR_app {l m : List R3} {n c : Int} (h : ∀ r ∈ m, ¬ (r.1 ≤ c ∧ c ≤ r.2.1)) : getR (l ++ m) n c = getR l n c := by
  unfold getR; rw [List.find?_append]
  cases l.find? (fun r => decide (r.1 ≤ c ∧ c ≤ r.2.1)) with
  | some r => rfl
  | none => rw [List.find?_eq_none.2 fun r hr => by simpa using fun a => Int.not_le.1 fun b => h r hr ⟨a, b⟩]; rfl
theorem getR_snoc {l : List R3} {r : R3} {n c : Int} (h : r.1 ≤ c → c ≤ r.2.1 → ∀ x ∈ l, ¬ (x.1 ≤ c ∧ c ≤ x.2.1)) : getR (l ++ [r]) n c = if r.1 ≤ c ∧ c ≤ r.2.1 then r.2.2 else getR l n c := by
  split
  · rename_i hr
    unfold getR; rw [List.find?_append, List.find?_eq_none.2 fun x hx => by simpa using fun a => Int.not_le.1 fun b => h hr.1 hr.2 x hx ⟨a, b⟩]
    simp [hr]
  · rename_i hr
    exact getR_app fun x hx => by rw [List.mem_singleton.1 hx]; exact hr
/-- Ranges of which a table may be made. -/
def mayB : Int → List R3 → Bool
  | _, [] => true
  | e, r :: l => !decide (r.1 ≤ e) && (!decide (r.2.1 < r.1) && (!decide (1114111 < r.2.1) && mayB r.2.1 l))
theorem may_spec : ∀ (l : List R3) (e : Int), mayB e l = true → (∀ i, i < l.length → e < (l.getD i default).1 ∧ (l.getD i default).1 ≤ (l.getD i default).2.1 ∧ (l.getD i default).2.1 ≤ 1114111) ∧
    ∀ i j, i < j → j < l.length → (l.getD i default).2.1 < (l.getD j default).1
  | [], e, _ => ⟨fun i h => by simp at h, fun i j _ h => by simp at h⟩
  | r :: l, e, h => by
    simp only [mayB, Bool.and_eq_true, Bool.not_eq_true', decide_eq_false_iff_not] at h
    obtain ⟨a, b⟩ := may_spec l r.2.1 h.2.2.2
    refine ⟨fun i hi => ?_, fun i j hij hj => ?_⟩
    · cases i with
      | zero => simp; omega
      | succ i => have := a i (by simpa using hi); simp at this ⊢; omega
    · cases j with
      | zero => omega
      | succ j =>
        cases i with
        | zero => have := a j (by simpa using hj); simp at this ⊢; omega
        | succ i => have := b i j (by omega) (by simpa using hj); simpa using this
end Go.Proofs.YtcgaphmndnmfdaaGreat
