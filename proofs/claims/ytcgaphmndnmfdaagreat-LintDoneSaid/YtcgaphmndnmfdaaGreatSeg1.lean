/-
  Codes in the order of their classes: what is put between codes without a class. Plain.
  Conditions: none but those that each sentence tells.
-/
import Derived.Test.YtcgaphmndnmfdaaGreatCccA
namespace Go.Proofs.YtcgaphmndnmfdaaGreat
open Go.Pm
open Nat renaming reduceEqDiff → nE, reduceAdd → nA, reduceMul → nM, reduceLeDiff → nD, reduceLT → nL
open Int renaming reduceLE → iL, reduceLT → iT, reduceEq → iE, reduceToNat → iN, cast_ofNat_Int → iC
set_option maxRecDepth 100000
set_option linter.unusedSimpArgs false
set_option linter.unusedVariables false

/-- A list in which what has no class stands alone; between such ones it is put by g. -/
def sgm {α : Type} (g : List α → List α) (z : α → Bool) : List α → List α → List α
  | p, [] => g p
  | p, x :: l => if z x then g p ++ x :: sgm g z [] l else sgm g z (p ++ [x]) l
theorem seg_perm {α : Type} (g : List α → List α) (z : α → Bool) (hg : ∀ p, (g p).Perm p) : ∀ (l p : List α), (sgm g z p l).Perm (p ++ l)
  | [], p => by simp only [sgm, List.append_nil]; exact hg p
  | x :: l, p => by
    unfold sgm
    split
    · exact ((hg p).append_right _).trans ((((seg_perm g z hg l []).cons x)).append_left p)
    · have := seg_perm g z hg l (p ++ [x])
      simpa using this
theorem seg_map {α β : Type} (e : α → β) (g : List α → List α) (g' : List β → List β) (z : α → Bool) (z' : β → Bool) (hg : ∀ p, (g p).map e = g' (p.map e)) (hz : ∀ x, z' (e x) = z x) :
    ∀ (l p : List α), (sgm g z p l).map e = sgm g' z' (p.map e) (l.map e)
  | [], p => by simp only [sgm, List.map_nil]; exact hg p
  | x :: l, p => by
    simp only [sgm, List.map_cons, hz]
    split
    · rw [List.map_append, List.map_cons, hg, seg_map e g g' z z' hg hz l []]; rfl
    · rw [seg_map e g g' z z' hg hz l]; simp
theorem seg_pre {α : Type} (g : List α → List α) (z : α → Bool) : ∀ (A q B : List α), (∀ x ∈ A, z x = false) → sgm g z q (A ++ B) = sgm g z (q ++ A) B
  | [], q, B, h => by simp
  | x :: A, q, B, h => by
    rw [List.cons_append, sgm, h x List.mem_cons_self]
    have := seg_pre g z A (q ++ [x]) B fun y hy => h y (List.mem_cons_of_mem _ hy)
    simpa using this
theorem seg_seg {α : Type} (g1 g2 : List α → List α) (z : α → Bool) (h1 : ∀ p, (g1 p).Perm p) : ∀ (l p : List α), (∀ x ∈ p, z x = false) → sgm g2 z [] (sgm g1 z p l) = sgm (fun p => g2 (g1 p)) z p l
  | [], p, hp => by
    simp only [sgm]
    have := seg_pre g2 z (g1 p) [] [] fun x hx => hp x ((h1 p).mem_iff.1 hx)
    simpa [sgm] using this
  | x :: l, p, hp => by
    simp only [sgm]
    by_cases hz : z x = true
    · rw [if_pos hz, if_pos hz, seg_pre g2 z (g1 p) [] _ fun x hx => hp x ((h1 p).mem_iff.1 hx), sgm, if_pos hz, seg_seg g1 g2 z h1 l [] (by simp)]
      rfl
    · rw [if_neg hz, if_neg hz]
      refine seg_seg g1 g2 z h1 l _ fun y hy => ?_
      rcases List.mem_append.1 hy with q | q
      · exact hp y q
      · rw [List.mem_singleton.1 q]; simpa using hz
theorem srtMap {α β : Type} [Inhabited α] [Inhabited β] [DecidableEq α] (f : α → β) (key : α → Int) (key' : β → Int) (hk : ∀ x, key' (f x) = key x) (B : List α) : (srt key B).map f = srt key' (B.map f) := by
  refine srt_of (key := key') ?_ ?_
  · refine List.pairwise_map.2 ?_
    exact List.Pairwise.imp (R := fun x y => key x ≤ key y) (fun {x y} h => by rw [hk, hk]; exact h) (srt_srt (key := key) B)
  · intro k
    rw [List.filter_map, List.filter_map]
    have e : ((fun x => decide (key' x = k)) ∘ f) = fun x => decide (key x = k) := by funext x; simp [hk]
    rw [e, srt_fil (key := key) B k]
theorem srt_perm (key : Int → Int) (l : List Int) : (srt key l).Perm l := (Fil.perm (srt_fil (key := key) l)).symm
theorem srt_twice (key : Int → Int) (l : List Int) : srt key (srt key l) = srt key l := (srt_of (srt_srt l) (Fil.refl _)).symm
theorem fix_seg (f : Int → Int) (X : List Int) : ∀ i, i ≤ X.length → sgm (srt (keyP f X)) (fun p => decide (keyP f X p = 0)) [] (rng 0 X.length) = (fixP f X i).1 ++ sgm (srt (keyP f X)) (fun p => decide (keyP f X p = 0)) (rng (fixP f X i).2 i) (rng i X.length)
  | 0, _ => by simp [fixP, rng_self]
  | i + 1, h => by
    have hl := fixP_len f X i
    rw [fix_seg f X i (by omega), rng_cons (by omega : i < X.length), sgm]
    have hk : keyP f X (i : Int) = f (X.getD i default) := by simp [keyP]
    by_cases hz : f (X.getD i default) = 0
    · rw [if_pos (by rw [hk]; simpa using hz), fixP, if_pos hz]
      simp [rng_self]
    · rw [if_neg (by rw [hk]; simpa using hz), fixP, if_neg hz, rng_succ (by omega)]
theorem placeT_seg (f : Int → Int) (X : List Int) : placeT f X = sgm (srt (keyP f X)) (fun p => decide (keyP f X p = 0)) [] (rng 0 X.length) := by
  rw [fix_seg f X X.length (Nat.le_refl _), rng_self]; rfl
theorem rng_codes (X : List Int) : (rng 0 X.length).map (fun p => X.getD p.toNat default) = X := by
  unfold rng
  rw [List.map_map]
  refine List.ext_getElem (by simp) fun i h1 h2 => ?_
  simp [h2]
def noC (f : Int → Int) (c : Int) : Bool := decide (f c = 0)
theorem ordT_seg (f : Int → Int) (X : List Int) : ordT f X = sgm (srt f) (noC f) [] X := by
  unfold ordT
  rw [placeT_seg, seg_map (fun p : Int => X.getD p.toNat default) (srt (keyP f X)) (srt f) (fun p => decide (keyP f X p = 0)) (noC f) (fun p => srtMap _ _ _ (fun x => rfl) p) (fun x => rfl), rng_codes]
  rfl
theorem ordT_perm (f : Int → Int) (X : List Int) : (ordT f X).Perm X := by
  rw [ordT_seg]
  exact seg_perm _ _ (srt_perm f) X []
theorem ordT_twice (f : Int → Int) (X : List Int) : ordT f (ordT f X) = ordT f X := by
  rw [ordT_seg f (ordT f X), ordT_seg, seg_seg _ _ _ (srt_perm f) X [] (by simp)]
  congr 1
  funext p
  exact srt_twice f p
theorem ordB_srt (f : Int → Int) : ∀ l : List Int, Srt f l → ordB f l = true
  | [], _ => rfl
  | [_], _ => rfl
  | a :: b :: l, s => by
    rw [ordB, ordB_srt f (b :: l) (List.Pairwise.of_cons s), Bool.and_true]
    have := s.head b (by simp)
    simp [befT, this]
theorem ordB_zero (f : Int → Int) (hf : ∀ c, 0 ≤ f c) (x : Int) (hx : f x = 0) : ∀ A B : List Int, ordB f A = true → ordB f B = true → ordB f (A ++ x :: B) = true
  | [], [], _, _ => rfl
  | [], b :: B, _, h => by
    rw [List.nil_append, ordB, h, Bool.and_true]
    have := hf b
    simp [befT, hx, this]
  | [a], B, _, h => by
    have := ordB_zero f hf x hx [] B rfl h
    simp only [List.nil_append] at this
    simp [ordB, this, befT, hx]
  | a :: b :: A, B, h1, h2 => by
    rw [ordB, Bool.and_eq_true] at h1
    have := ordB_zero f hf x hx (b :: A) B h1.2 h2
    simp only [List.cons_append] at this ⊢
    rw [ordB, this, h1.1]; rfl
theorem ordB_seg (f : Int → Int) (hf : ∀ c, 0 ≤ f c) : ∀ l p : List Int, ordB f (sgm (srt f) (noC f) p l) = true
  | [], p => ordB_srt f _ (srt_srt p)
  | x :: l, p => by
    unfold sgm
    split
    · rename_i hz
      exact ordB_zero f hf x (by simpa [noC] using hz) _ _ (ordB_srt f _ (srt_srt p)) (ordB_seg f hf l [])
    · exact ordB_seg f hf l _
theorem ordT_ordB (f : Int → Int) (hf : ∀ c, 0 ≤ f c) (X : List Int) : ordB f (ordT f X) = true := by rw [ordT_seg]; exact ordB_seg f hf X []
theorem ms_eq {X Y : List Int} (h : X.Perm Y) : X.mergeSort (fun x y => decide (x ≤ y)) = Y.mergeSort (fun x y => decide (x ≤ y)) := by
  have tr : ∀ a b c : Int, decide (a ≤ b) = true → decide (b ≤ c) = true → decide (a ≤ c) = true := fun a b c h1 h2 => by simp at *; omega
  have to : ∀ a b : Int, (decide (a ≤ b) || decide (b ≤ a)) = true := fun a b => by simp; omega
  refine List.Perm.eq_of_pairwise (le := fun x y => decide (x ≤ y) = true) (fun a b _ _ h1 h2 => by simp at h1 h2; omega) (List.pairwise_mergeSort tr to X) (List.pairwise_mergeSort tr to Y) ?_
  exact (List.mergeSort_perm X _).trans (h.trans (List.mergeSort_perm Y _).symm)
end Go.Proofs.YtcgaphmndnmfdaaGreat
