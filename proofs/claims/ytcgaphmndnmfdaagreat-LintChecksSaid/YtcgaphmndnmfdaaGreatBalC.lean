/-
  A text in which all that begins ends: the package's walk (body, evened, Even, Level).
  Conditions: a text of at most a hundred thousand codes.
-/
import Derived.Test.YtcgaphmndnmfdaaGreatBalB
import Derived.Test.YtcgaphmndnmfdaaGreatBal9
import Derived.Test.YtcgaphmndnmfdaaGreatIntsBin
import Derived.Test.YtcgaphmndnmfdaaGreatProps3
namespace Go.Proofs.YtcgaphmndnmfdaaGreat
open Go.Pm
open Nat renaming reduceEqDiff → nE, reduceAdd → nA, reduceMul → nM, reduceLeDiff → nD, reduceLT → nL
open Int renaming reduceLE → iL, reduceLT → iT, reduceEq → iE, reduceToNat → iN, cast_ofNat_Int → iC
set_option maxRecDepth 100000
set_option linter.unusedSimpArgs false
set_option linter.unusedVariables false

/-! ### What stays -/
theorem ls_asc (C : List Int) : ∀ i, i ≤ C.length → (wk C i).ls.Pairwise (· < ·) ∧ ∀ x ∈ (wk C i).ls, 0 ≤ x ∧ x < (i : Int)
  | 0, _ => ⟨List.Pairwise.nil, fun x h => (nomatch h)⟩
  | i + 1, hi => by
    obtain ⟨h1, h2⟩ := ls_asc C i (by omega)
    have add : ((wk C i).ls ++ [(i : Int)]).Pairwise (· < ·) ∧ ∀ x ∈ (wk C i).ls ++ [(i : Int)], 0 ≤ x ∧ x < ((i + 1 : Nat) : Int) := by
      refine ⟨List.pairwise_append.2 ⟨h1, List.pairwise_singleton _ _, fun x hx y hy => ?_⟩, fun x hx => ?_⟩
      · rw [List.mem_singleton.1 hy]; exact (h2 x hx).2
      · rcases List.mem_append.1 hx with q | q
        · have := h2 x q; omega
        · rw [List.mem_singleton.1 q]; omega
    have keep : (wk C i).ls.Pairwise (· < ·) ∧ ∀ x ∈ (wk C i).ls, 0 ≤ x ∧ x < ((i + 1 : Nat) : Int) := ⟨h1, fun x hx => by have := h2 x hx; omega⟩
    rw [wk, stepW]
    split
    · exact keep
    · split
      · rw [endE]; split
        · exact keep
        · exact add
      · split
        · rw [endI]; split
          · exact keep
          · exact add
        · exact keep
theorem asc_low {L : List Int} (hs : L.Pairwise (· < ·)) {x : Int} {p : Nat} (hp : Low L x p) : decide (p < L.length ∧ L.getD p default = x) = decide (x ∈ L) := by
  obtain ⟨h1, h2, h3⟩ := hp
  rw [decide_eq_decide]
  constructor
  · rintro ⟨a, b⟩
    rw [← b]; exact get_mem L a
  · intro hx
    obtain ⟨q, hq, e⟩ := List.mem_iff_getElem.1 hx
    have eq : L.getD q default = x := by simpa [List.getD, hq] using e
    have hpq : p ≤ q := by
      rcases Nat.lt_or_ge q p with g | g
      · have := h2 q g; omega
      · exact g
    refine ⟨by omega, ?_⟩
    have a := h3 p (Nat.le_refl _) (by omega)
    by_cases e2 : p = q
    · rw [e2]; exact eq
    · have : L.getD p default < L.getD q default := by
        have hpl : p < L.length := by omega
        have := List.pairwise_iff_getElem.1 hs p q hpl hq (by omega)
        simpa [List.getD, hpl, hq] using this
      omega
theorem asc_get {L : List Int} (hs : L.Pairwise (· < ·)) : ∀ i j, i ≤ j → j < L.length → L.getD i default ≤ L.getD j default := fun i j h1 h2 => by
  by_cases e : i = j
  · rw [e]; omega
  · have := List.pairwise_iff_getElem.1 hs i j (by omega) h2 (by omega)
    have hi : i < L.length := by omega
    have a : L.getD i default = L[i] := by simp [List.getD, hi]
    have b : L.getD j default = L[j] := by simp [List.getD, h2]
    rw [a, b]; omega
/-! ### Texts -/
def cutS (X : List Int) (s : Int × Int) : List Int := (X.drop s.1.toNat).take (s.2.toNat - s.1.toNat)
theorem cutS_len (X : List Int) {q : Int × Int} (h0 : 0 ≤ q.1) (h1 : q.1 ≤ q.2) (h2 : q.2 ≤ X.length) : (cutS X q).length = q.2.toNat - q.1.toNat := by
  unfold cutS; rw [List.length_take, List.length_drop]; omega
theorem slcS {k : Option Nat} {fr : Bool} {X : List Int} {q : Int × Int} {K : Kt} {h : Heap} (h0 : 0 ≤ q.1) (h1 : q.1 ≤ q.2) (h2 : q.2 ≤ X.length) : slcK k (some 1) (.list fr 1 X.length (X.map (.int .i64))) (some (.int .i64 q.1)) (some (.int .i64 q.2)) K h = K (.list fr 1 (cutS X q).length ((cutS X q).map (.int .i64))) h := by
  have e1 : q.1 = (q.1.toNat : Int) := by omega
  have e2 : q.2 = (q.2.toNat : Int) := by omega
  rw [e1, e2, slcL_both (by omega) (by omega), cutS_len X h0 h1 h2]
  have : (((X.map (PV.int .i64)).drop (q.1.toNat * 1)).take ((q.2.toNat - q.1.toNat) * 1)) = (cutS X q).map (.int .i64) := by
    unfold cutS; rw [Nat.mul_one, Nat.mul_one, ← List.map_drop, ← List.map_take]
  rw [this]
theorem parts_in : ∀ (l : List (Int × Int)) (e n : Int), 0 ≤ e → partsB e l n = true → (e ≤ n ∧ ∀ s ∈ l, e ≤ s.1 ∧ s.1 < s.2 ∧ s.2 ≤ n)
  | [], e, n, h0, h => by
    simp only [partsB, decide_eq_true_eq] at h
    exact ⟨by omega, fun s hs => (nomatch hs)⟩
  | p :: l, e, n, h0, h => by
    simp only [partsB, Bool.and_eq_true, decide_eq_true_eq] at h
    obtain ⟨h1, ⟨h2, h3⟩, h4⟩ := h
    obtain ⟨i1, i2⟩ := parts_in l p.2 n (by omega) h4
    refine ⟨by omega, fun s hs => ?_⟩
    rcases List.mem_cons.1 hs with rfl | hs
    · exact ⟨by omega, h3, i1⟩
    · have := i2 s hs; omega
theorem split_in (X : List Int) : ∀ s ∈ splitT X, 0 ≤ s.1 ∧ s.1 < s.2 ∧ s.2 ≤ (X.length : Int) := (parts_in _ _ _ (by omega) (split_parts X)).2
theorem cut_le (X : List Int) (s : Int × Int) : (cutS X s).length ≤ X.length := by
  unfold cutS; rw [List.length_take, List.length_drop]; omega
theorem even_len (X : List Int) : (evenT X).length ≤ 2 * X.length := by
  have l1 := sty_len X (wkT (cls X)).ls 0 (bodyT X)
  have l2 := sty_len X (wkT (cls X)).ls (bodyT X) (X.length - bodyT X)
  have hb := body_le X
  obtain ⟨-, ok2⟩ := wkT_ok (cls X)
  rw [cls_len] at ok2
  have l3 : (endsT (cls X)).length = (wkT (cls X)).st.length := by simp [endsT]
  rw [evenT, List.length_append, List.length_append, l3]
  omega
def evenX (X : List Int) : List Int := (splitT X).flatMap fun s => evenT (cutS X s)
theorem flat_bound (X : List Int) : ∀ (L : List (Int × Int)), (L.flatMap fun s => evenT (cutS X s)).length ≤ L.length * (2 * X.length)
  | [] => by simp
  | s :: L => by
    have ih := flat_bound X L
    have a := even_len (cutS X s)
    have b := cut_le X s
    rw [List.flatMap_cons, List.length_append, List.length_cons, Nat.add_mul]
    omega
end Go.Proofs.YtcgaphmndnmfdaaGreat

/-
  Whether all that begins ends (balance.Level), and the document's Even and Level.
  Conditions: a text of at most a thousand codes.
-/
namespace Go.Proofs.YtcgaphmndnmfdaaGreat
open Go.Pm
open Nat renaming reduceEqDiff → nE, reduceAdd → nA, reduceMul → nM, reduceLeDiff → nD, reduceLT → nL
open Int renaming reduceLE → iL, reduceLT → iT, reduceEq → iE, reduceToNat → iN, cast_ofNat_Int → iC
set_option maxRecDepth 100000
set_option linter.unusedSimpArgs false
set_option linter.unusedVariables false

def unevW (w : W3) : Bool := decide (0 < w.st.length + w.lo.length + w.ls.length)
def unevB (X : List Int) (s : Int × Int) : Bool := unevW (wkT (cls (cutS X s)))
def evLevel (X : List Int) : Bool := !(splitT X).any (unevB X)
/-! ### The document's -/
end Go.Proofs.YtcgaphmndnmfdaaGreat
