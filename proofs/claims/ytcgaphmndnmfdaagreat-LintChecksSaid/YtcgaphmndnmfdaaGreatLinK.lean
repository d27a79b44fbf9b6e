/-
  Plain: what is odd in a text, and a text without it.
-/
import Derived.Test.YtcgaphmndnmfdaaGreatBal14
import Derived.Test.YtcgaphmndnmfdaaGreatCccA
import Derived.Test.YtcgaphmndnmfdaaGreatFormA
namespace Go.Proofs.YtcgaphmndnmfdaaGreat
open Go.Pm
open Nat renaming reduceEqDiff → nE, reduceAdd → nA, reduceMul → nM, reduceLeDiff → nD, reduceLT → nL
open Int renaming reduceLE → iL, reduceLT → iT, reduceEq → iE, reduceToNat → iN, cast_ofNat_Int → iC
set_option maxRecDepth 100000
set_option linter.unusedSimpArgs false
set_option linter.unusedVariables false

/-! ### What is odd -/
def at0 (X : List Int) (i : Nat) : Int := X.getD i default
/-- Does a tatweel stand behind two? -/
def rowT (X : List Int) (i : Nat) : Bool := decide (2 ≤ i) && (decide (at0 X i = 1600) && (decide (at0 X (i - 1) = 1600) && decide (at0 X (i - 2) = 1600)))
def spaceT (c : Int) : Bool := decide (c = 10) || (decide (c = 11) || decide (c = 12))
def bareT (X : List Int) (s : Int × Int) (i : Nat) : Bool := markT (at0 X i) && (decide ((i : Int) = s.1) || spaceT (classT (at0 X (i - 1))))
def behT (f : Int → Int) (X : List Int) (i : Nat) : Bool := decide (0 < i) && !befT f (at0 X (i - 1)) (at0 X i)
def mixT (X : List Int) (i : Nat) : Bool := decide (0 < i) && (decide ((digT (at0 X (i - 1))).2 ≠ (digT (at0 X i)).2) && (decide ((digT (at0 X (i - 1))).2 ≠ 0) && decide ((digT (at0 X i)).2 ≠ 0)))
def illT (c : Int) : Bool := decide (c < 0) || decide (1114111 < c)
/-- Is something odd in a way at a place of a paragraph? -/
def kindT (f : Int → Int) (X : List Int) (s : Int × Int) (k : Int) (i : Nat) : Bool :=
  if k = 1 then illT (at0 X i)
  else if k = 2 then decide ((i : Int) - s.1 ∈ openT (cls (cutS X s)))
  else if k = 3 then decide ((i : Int) - s.1 ∈ (wkT (cls (cutS X s))).ls)
  else if k = 4 then presB (at0 X i)
  else if k = 5 then bareT X s i
  else if k = 6 then behT f X i
  else if k = 7 then mixT X i
  else if k = 8 then rowT X i
  else false
def kls (f : Int → Int) (X : List Int) (s : Int × Int) (i : Nat) : Nat → List Int
  | 0 => []
  | n + 1 => if kindT f X s ((n + 1 : Nat) : Int) i then kls f X s i n ++ [((n + 1 : Nat) : Int)] else kls f X s i n
theorem kls_len (f : Int → Int) (X : List Int) (s : Int × Int) (i : Nat) : ∀ n, (kls f X s i n).length ≤ n
  | 0 => Nat.le_refl _
  | n + 1 => by
    have := kls_len f X s i n
    unfold kls; split
    · simp; omega
    · omega
theorem kls_mem (f : Int → Int) (X : List Int) (s : Int × Int) (i : Nat) : ∀ n, ∀ k ∈ kls f X s i n, kindT f X s k i = true
  | 0, k, h => by simp [kls] at h
  | n + 1, k, h => by
    rw [kls] at h
    split at h
    · rename_i q
      rcases List.mem_append.1 h with g | g
      · exact kls_mem f X s i n k g
      · rw [List.mem_singleton.1 g]; exact q
    · exact kls_mem f X s i n k h
/-- What is odd at a place. -/
def fpl (f : Int → Int) (X : List Int) (s : Int × Int) (i : Nat) (n : Nat) : List (Int × Int) := (kls f X s i n).map fun k => ((i : Int), k)
/-- What is odd in a paragraph's first places. -/
def fpt (f : Int → Int) (X : List Int) (s : Int × Int) : Nat → List (Int × Int)
  | 0 => []
  | m + 1 => fpt f X s m ++ fpl f X s (s.1.toNat + m) 8
theorem fpt_len (f : Int → Int) (X : List Int) (s : Int × Int) : ∀ m, (fpt f X s m).length ≤ 8 * m
  | 0 => Nat.le_refl _
  | m + 1 => by
    have := fpt_len f X s m
    have h := kls_len f X s (s.1.toNat + m) 8
    rw [fpt, List.length_append, fpl, List.length_map]; omega
def findsT (f : Int → Int) (X : List Int) : List (Int × Int) := (splitT X).flatMap fun s => fpt f X s (s.2.toNat - s.1.toNat)
theorem fpt_mem (f : Int → Int) (X : List Int) (s : Int × Int) : ∀ m, ∀ x ∈ fpt f X s m, ∃ i : Nat, i < s.1.toNat + m ∧ s.1.toNat ≤ i ∧ kindT f X s x.2 i = true
  | 0, x, h => by simp [fpt] at h
  | m + 1, x, h => by
    rw [fpt] at h
    rcases List.mem_append.1 h with g | g
    · obtain ⟨i, a, b, c⟩ := fpt_mem f X s m x g; exact ⟨i, by omega, b, c⟩
    · rw [fpl] at g
      obtain ⟨k, hk, rfl⟩ := List.mem_map.1 g
      exact ⟨s.1.toNat + m, by omega, by omega, kls_mem f X s _ 8 k hk⟩
/-! ### A text without it -/
/-- What a code is taken back to. -/
def backT (c : Int) : List Int :=
  if (baseF lets c).2.2 = true then [(baseF lets c).1] else if (partP ligs c).2.2 = true then [1604, (partP ligs c).1]
  else if (markP accs c).2.2 = true then [(markP accs c).1] else if (unpP pils c).2 = true then [1617, (unpP pils c).1] else [c]
def nrw (X : List Int) : Nat → List Int
  | 0 => []
  | i + 1 => if rowT X i then nrw X i else nrw X i ++ [at0 X i]
theorem nrw_len (X : List Int) : ∀ n, (nrw X n).length ≤ n
  | 0 => Nat.le_refl _
  | n + 1 => by
    have := nrw_len X n
    unfold nrw; split
    · omega
    · simp; omega
def backX (X : List Int) : List Int := ordT cccT ((evenX X).flatMap backT)
def mendT (X : List Int) : List Int := nrw (backX X) (backX X).length
end Go.Proofs.YtcgaphmndnmfdaaGreat
