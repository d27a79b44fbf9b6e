/-
  What the reference of the package span cuts, and whether rows of spans are alike; the law SpanCuts.
  Conditions: none but those that each sentence tells.
-/
import Derived.Test.YtkjkgogfilgjpaaSpan1
namespace Go.Proofs.Ytkjkgogfilgjpaa
open Go.Pm
set_option maxRecDepth 100000
set_option linter.unusedSimpArgs false
set_option linter.unusedVariables false

theorem sp_inj {p q : Int × Int} : (decide (p.1 = q.1) && decide (p.2 = q.2)) = decide (p = q) := by
  cases p; cases q; simp [Prod.mk.injEq, Bool.and_comm]
theorem cuts_len (hi : Int) : ∀ (lo : Int) (l : List Int), (cuts hi lo l).length = l.length + 1
  | _, [] => rfl
  | _, n :: l => by simp [cuts, cuts_len hi n l]
theorem cuts_parts (hi : Int) : ∀ (lo : Int) (l : List Int), 0 ≤ lo → lo < hi → risesB hi lo l = true → partsB lo (cuts hi lo l) hi = true
  | lo, [], h1, h2, _ => by simp [cuts, partsB, h1, h2]
  | lo, n :: l, h1, h2, h3 => by
    simp only [risesB, Bool.and_eq_true, Bool.not_eq_true', decide_eq_false_iff_not] at h3
    have := cuts_parts hi n l (by omega) (by omega) h3.2.2
    simp only [cuts, partsB, this, Bool.and_true, decide_true, Bool.true_and, decide_eq_true_eq]
    omega
def kinds_SpanCuts : List AKind := [.st [some .i64, some .i64], .row [some .i64] 8]
theorem fits_int (r : List PV) (h : Fits [some .i64] r) : ∃ x : Int, r = [.int .i64 x] ∧ (x ≤ 9223372036854775807 ∧ -9223372036854775808 ≤ x) := by
  obtain ⟨a, r, rfl, ha, rfl⟩ := h
  have := wf64 ha
  exact ⟨a, rfl, by omega⟩
end Go.Proofs.Ytkjkgogfilgjpaa
