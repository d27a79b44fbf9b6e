/-
  Marks as they are drawn: the document's four passes are what is taken.
  Conditions: none but those that each sentence tells.
-/
import Derived.Test.YtnalkkailafklaaAmt7
namespace Go.Proofs.Ytnalkkailafklaa
open Go.Pm
set_option maxRecDepth 100000
set_option linter.unusedSimpArgs false
set_option linter.unusedVariables false

theorem zip_row (X : List Int) : ∀ (l : List Int) (e2 e3 : Bool),
    (takeF (isC cccT X 33) (fun _ => false) false l).1 = passL (l.zip ((flagF (isC cccT X 33) (stR X 33) false l).zip ((flagF (isC cccT X 230) (stR X 230) e2 l).zip (flagF (isC cccT X 220) (stR X 220) e3 l)))) 0 ∧
    (takeF (isC cccT X 230) (stC cccT X 230) e2 (takeF (isC cccT X 33) (fun _ => false) false l).2).1 = passL (l.zip ((flagF (isC cccT X 33) (stR X 33) false l).zip ((flagF (isC cccT X 230) (stR X 230) e2 l).zip (flagF (isC cccT X 220) (stR X 220) e3 l)))) 1 ∧
    (takeF (isC cccT X 220) (stC cccT X 220) e3 (takeF (isC cccT X 230) (stC cccT X 230) e2 (takeF (isC cccT X 33) (fun _ => false) false l).2).2).1 = passL (l.zip ((flagF (isC cccT X 33) (stR X 33) false l).zip ((flagF (isC cccT X 230) (stR X 230) e2 l).zip (flagF (isC cccT X 220) (stR X 220) e3 l)))) 2 ∧
    (takeF (isC cccT X 220) (stC cccT X 220) e3 (takeF (isC cccT X 230) (stC cccT X 230) e2 (takeF (isC cccT X 33) (fun _ => false) false l).2).2).2 = passL (l.zip ((flagF (isC cccT X 33) (stR X 33) false l).zip ((flagF (isC cccT X 230) (stR X 230) e2 l).zip (flagF (isC cccT X 220) (stR X 220) e3 l)))) 3
  | [], e2, e3 => by simp [takeF, flagF, passL]
  | a :: l, e2, e3 => by
    have ih := zip_row X l
    have i33 : isC cccT X 33 a = decide (cccT (X.getD a.toNat default) = 33) := rfl
    have i230 : isC cccT X 230 a = decide (cccT (X.getD a.toNat default) = 230) := rfl
    have i220 : isC cccT X 220 a = decide (cccT (X.getD a.toNat default) = 220) := rfl
    have s33 : stR X 33 a = false := by simp [stR]
    have s230 : stR X 230 a = (decide (cccT (X.getD a.toNat default) = 230) && !mvT (X.getD a.toNat default)) := by simp [stR]
    have s220 : stR X 220 a = (decide (cccT (X.getD a.toNat default) = 220) && !mvT (X.getD a.toNat default)) := by simp [stR]
    have t230 : stC cccT X 230 a = (decide (cccT (X.getD a.toNat default) = 230) && !mvT (X.getD a.toNat default)) := rfl
    have t220 : stC cccT X 220 a = (decide (cccT (X.getD a.toNat default) = 220) && !mvT (X.getD a.toNat default)) := rfl
    generalize cccT (X.getD a.toNat default) = c at *
    generalize mvT (X.getD a.toNat default) = mv at *
    by_cases h1 : c = 33
    · subst h1
      obtain ⟨j1, j2, j3, j4⟩ := ih e2 e3
      simp [takeF, flagF, passL, selB, i33, i230, i220, s33, s230, s220, t230, t220] at j1 j2 j3 j4 ⊢
      exact ⟨j1, j2, j3, j4⟩
    by_cases h2 : c = 230
    · subst h2
      cases e2 <;> cases mv
      all_goals (first | (obtain ⟨j1, j2, j3, j4⟩ := ih true e3; simp [takeF, flagF, passL, selB, i33, i230, i220, s33, s230, s220, t230, t220] at j1 j2 j3 j4 ⊢; exact ⟨j1, j2, j3, j4⟩) | (obtain ⟨j1, j2, j3, j4⟩ := ih false e3; simp [takeF, flagF, passL, selB, i33, i230, i220, s33, s230, s220, t230, t220] at j1 j2 j3 j4 ⊢; exact ⟨j1, j2, j3, j4⟩))
    by_cases h3 : c = 220
    · subst h3
      cases e3 <;> cases mv
      all_goals (first | (obtain ⟨j1, j2, j3, j4⟩ := ih e2 true; simp [takeF, flagF, passL, selB, i33, i230, i220, s33, s230, s220, t230, t220] at j1 j2 j3 j4 ⊢; exact ⟨j1, j2, j3, j4⟩) | (obtain ⟨j1, j2, j3, j4⟩ := ih e2 false; simp [takeF, flagF, passL, selB, i33, i230, i220, s33, s230, s220, t230, t220] at j1 j2 j3 j4 ⊢; exact ⟨j1, j2, j3, j4⟩))
    · obtain ⟨j1, j2, j3, j4⟩ := ih e2 e3
      simp [takeF, flagF, passL, selB, i33, i230, i220, s33, s230, s220, t230, t220, h1, h2, h3] at j1 j2 j3 j4 ⊢
      exact ⟨j1, j2, j3, j4⟩
theorem passes_drawn (X R : List Int) : passes (zrow X R) 4 = drawnP cccT X R := by
  obtain ⟨j1, j2, j3, j4⟩ := zip_row X R false false
  unfold drawnP
  simp only [movs, List.append_nil, passes, List.nil_append]
  unfold zrow mvd
  rw [← j1, ← j2, ← j3, ← j4]
  simp [List.append_assoc]
theorem hpas (X R : List Int) : (passes (zrow X R) 4).length = R.length := by rw [passes_drawn, drawnP_len]
theorem hRA (X : List Int) : refP X = amP cccT X := by
  unfold refP amP
  congr 1
  funext R
  exact passes_drawn X R
end Go.Proofs.Ytnalkkailafklaa
