/-
  Marks as they are drawn: what is alike, plain.
  Conditions: none but those that each sentence tells.
-/
import Derived.Test.YtnalkkailafklaaAmt8
namespace Go.Proofs.Ytnalkkailafklaa
open Go.Pm
set_option maxRecDepth 100000
set_option linter.unusedSimpArgs false
set_option linter.unusedVariables false

def isL (f : Int → Int) (cls c : Int) : Bool := decide (f c = cls)
def stL (f : Int → Int) (cls c : Int) : Bool := decide (f c = cls) && !mvT c
def movL (f : Int → Int) : List Int → List Int → List Int × List Int
  | [], l => ([], l)
  | c :: cs, l => ((takeF (isL f c) (stL f c) false l).1 ++ (movL f cs (takeF (isL f c) (stL f c) false l).2).1, (movL f cs (takeF (isL f c) (stL f c) false l).2).2)
def drawnL (f : Int → Int) (l : List Int) : List Int :=
  (takeF (isL f 33) (fun _ => false) false l).1 ++ (movL f [230, 220] (takeF (isL f 33) (fun _ => false) false l).2).1 ++ (movL f [230, 220] (takeF (isL f 33) (fun _ => false) false l).2).2
theorem takeF_map (e : Int → Int) (goes ends goes' ends' : Int → Bool) (h1 : ∀ a, goes a = goes' (e a)) (h2 : ∀ a, ends a = ends' (e a)) : ∀ (l : List Int) (s : Bool), (takeF goes ends s l).1.map e = (takeF goes' ends' s (l.map e)).1 ∧ (takeF goes ends s l).2.map e = (takeF goes' ends' s (l.map e)).2
  | [], s => ⟨rfl, rfl⟩
  | a :: l, s => by
    obtain ⟨i1, i2⟩ := takeF_map e goes ends goes' ends' h1 h2 l (s || ends a)
    simp only [List.map_cons, takeF]
    rw [← h1, ← h2]
    split <;> simp [i1, i2]
theorem movs_map (f : Int → Int) (X : List Int) : ∀ (C l : List Int), (movs f X C l).1.map (fun p => X.getD p.toNat default) = (movL f C (l.map fun p => X.getD p.toNat default)).1 ∧ (movs f X C l).2.map (fun p => X.getD p.toNat default) = (movL f C (l.map fun p => X.getD p.toNat default)).2
  | [], l => ⟨rfl, rfl⟩
  | c :: cs, l => by
    obtain ⟨i1, i2⟩ := takeF_map (fun p => X.getD p.toNat default) (isC f X c) (stC f X c) (isL f c) (stL f c) (fun _ => rfl) (fun _ => rfl) l false
    obtain ⟨j1, j2⟩ := movs_map f X cs (takeF (isC f X c) (stC f X c) false l).2
    simp only [movs, movL, List.map_append]
    rw [i1, j1, j2, i2]
    exact ⟨rfl, rfl⟩
theorem drawnP_map (f : Int → Int) (X l : List Int) : (drawnP f X l).map (fun p => X.getD p.toNat default) = drawnL f (l.map fun p => X.getD p.toNat default) := by
  obtain ⟨i1, i2⟩ := takeF_map (fun p => X.getD p.toNat default) (isC f X 33) (fun _ => false) (isL f 33) (fun _ => false) (fun _ => rfl) (fun _ => rfl) l false
  obtain ⟨j1, j2⟩ := movs_map f X [230, 220] (takeF (isC f X 33) (fun _ => false) false l).2
  unfold drawnP drawnL
  rw [List.map_append, List.map_append, i1, j1, j2, i2]
theorem takeF_t (goes ends : Int → Bool) : ∀ l : List Int, takeF goes ends true l = ([], l)
  | [] => rfl
  | a :: l => by simp [takeF, takeF_t goes ends l]
theorem takeF_goes (goes ends : Int → Bool) : ∀ (l : List Int) (s : Bool), ∀ x ∈ (takeF goes ends s l).1, goes x = true
  | [], s, x, h => by cases h
  | a :: l, s, x, h => by
    have ih := takeF_goes goes ends l (s || ends a)
    unfold takeF at h
    split at h
    · rename_i q
      rcases List.mem_cons.1 h with rfl | h
      · simp only [Bool.and_eq_true] at q; exact q.2
      · exact ih x h
    · exact ih x h
theorem fil_mid (f : Int → Int) (t r : List Int) (a : Int) (h : ∀ x ∈ t, f x ≠ f a) : Fil f (t ++ a :: r) (a :: (t ++ r)) := fun k => by
  rw [List.filter_append, List.filter_cons, List.filter_cons, List.filter_append]
  by_cases q : f a = k
  · have e : t.filter (fun x => decide (f x = k)) = [] := by
      rw [List.filter_eq_nil_iff]
      intro x hx
      have := h x hx
      simp; omega
    rw [e]; simp [q]
  · simp [q]
theorem takeF_fil (f : Int → Int) (cls : Int) (ends : Int → Bool) : ∀ (l : List Int) (s : Bool), Fil f ((takeF (isL f cls) ends s l).1 ++ (takeF (isL f cls) ends s l).2) l
  | [], s => Fil.refl _
  | a :: l, s => by
    have ih := takeF_fil f cls ends l (s || ends a)
    have hg := takeF_goes (isL f cls) ends l (s || ends a)
    unfold takeF
    by_cases q : (!(s || ends a) && isL f cls a) = true
    · rw [if_pos q]
      exact Fil.cons a ih
    · rw [if_neg q]
      simp only [] at ih ⊢
      by_cases q2 : isL f cls a = true
      · have e : (s || ends a) = true := by
          cases h : (s || ends a)
          · rw [h, q2] at q; exact absurd rfl q
          · rfl
        rw [e, takeF_t]
        exact Fil.refl _
      · refine (fil_mid f _ _ a fun x hx => ?_).trans (Fil.cons a ih)
        have := hg x hx
        simp only [isL, decide_eq_true_eq] at this q2
        omega
theorem movL_fil (f : Int → Int) : ∀ (C l : List Int), Fil f ((movL f C l).1 ++ (movL f C l).2) l
  | [], l => Fil.refl _
  | c :: cs, l => by
    simp only [movL, List.append_assoc]
    exact ((Fil.refl _).app (movL_fil f cs _)).trans (takeF_fil f c _ l false)
theorem drawnL_fil (f : Int → Int) (l : List Int) : Fil f (drawnL f l) l := by
  unfold drawnL
  rw [List.append_assoc]
  exact ((Fil.refl _).app (movL_fil f _ _)).trans (takeF_fil f 33 _ l false)
theorem drawnL_perm (f : Int → Int) (l : List Int) : (drawnL f l).Perm l := Fil.perm (drawnL_fil f l)
def drw (f : Int → Int) (p : List Int) : List Int := drawnL f (srt f p)
theorem drw_perm (f : Int → Int) (p : List Int) : (drw f p).Perm p := (drawnL_perm f _).trans (srt_perm f p)
theorem drw_srt (f : Int → Int) (p : List Int) : drw f (srt f p) = drw f p := by unfold drw; rw [srt_twice]
theorem drw_twice (f : Int → Int) (p : List Int) : drw f (drw f p) = drw f p := by
  have : srt f p = srt f (drw f p) := srt_of (srt_srt p) (drawnL_fil f (srt f p))
  rw [drw, ← this]; rfl
theorem amT_seg (f : Int → Int) (X : List Int) : amT f X = seg (drw f) (noC f) [] X := by
  unfold amT amP
  rw [seg_map (fun p : Int => X.getD p.toNat default) (drawnP f X) (drawnL f) (isC f X 0) (noC f) (drawnP_map f X) (fun x => rfl)]
  show seg (drawnL f) (noC f) [] (ordT f X) = _
  rw [ordT_seg, seg_seg _ _ _ (srt_perm f) X [] (by simp)]
  rfl
theorem amT_perm (f : Int → Int) (X : List Int) : (amT f X).Perm X := by
  rw [amT_seg]
  exact seg_perm _ _ (drw_perm f) X []
theorem amT_twice (f : Int → Int) (X : List Int) : amT f (amT f X) = amT f X := by
  rw [amT_seg f (amT f X), amT_seg, seg_seg _ _ _ (drw_perm f) X [] (by simp)]
  congr 1
  funext p
  exact drw_twice f p
theorem amT_ord (f : Int → Int) (X : List Int) : amT f (ordT f X) = amT f X := by
  rw [amT_seg f (ordT f X), amT_seg, ordT_seg, seg_seg _ _ _ (srt_perm f) X [] (by simp)]
  congr 1
  funext p
  exact drw_srt f p
/-- Alike where there is no class. -/
def Alk (f : Int → Int) (A B : List Int) : Prop := A.length = B.length ∧ ∀ (i : Nat) (a b : Int), A[i]? = some a → B[i]? = some b → (noC f a = noC f b ∧ (noC f a = true → a = b))
theorem Alk.app {f : Int → Int} {A B A' B' : List Int} (h : Alk f A B) (h' : Alk f A' B') : Alk f (A ++ A') (B ++ B') := by
  refine ⟨by simp [h.1, h'.1], fun i a b ha hb => ?_⟩
  rw [List.getElem?_append] at ha hb
  rw [← h.1] at hb
  split at ha
  · rename_i q; rw [if_pos q] at hb; exact h.2 i a b ha hb
  · rename_i q; rw [if_neg q] at hb; exact h'.2 _ a b ha hb
theorem alk_self (f : Int → Int) (g : List Int → List Int) (hg : ∀ p, (g p).Perm p) (p : List Int) (hp : ∀ x ∈ p, noC f x = false) : Alk f p (g p) := by
  refine ⟨(hg p).length_eq.symm, fun i a b ha hb => ?_⟩
  have h1 := hp a (List.mem_of_getElem? ha)
  have h2 := hp b ((hg p).mem_iff.1 (List.mem_of_getElem? hb))
  exact ⟨by rw [h1, h2], fun q => by rw [h1] at q; cases q⟩
theorem seg_alk (f : Int → Int) (g : List Int → List Int) (hg : ∀ p, (g p).Perm p) : ∀ l p : List Int, (∀ x ∈ p, noC f x = false) → Alk f (p ++ l) (seg g (noC f) p l)
  | [], p, hp => by
    rw [List.append_nil]
    exact alk_self f g hg p hp
  | x :: l, p, hp => by
    unfold seg
    by_cases hz : noC f x = true
    · rw [if_pos hz]
      refine (alk_self f g hg p hp).app (Alk.app (A := [x]) (B := [x]) ⟨rfl, fun i a b ha hb => by rw [ha] at hb; cases hb; exact ⟨rfl, fun _ => rfl⟩⟩ ?_)
      have := seg_alk f g hg l [] (by simp)
      simpa using this
    · rw [if_neg hz]
      have := seg_alk f g hg l (p ++ [x]) fun y hy => by
        rcases List.mem_append.1 hy with q | q
        · exact hp y q
        · rw [List.mem_singleton.1 q]; simpa using hz
      simpa using this
theorem amT_alk (f : Int → Int) (X : List Int) : Alk f X (amT f X) := by
  rw [amT_seg]
  exact seg_alk f _ (drw_perm f) X [] (by simp)
end Go.Proofs.Ytnalkkailafklaa
