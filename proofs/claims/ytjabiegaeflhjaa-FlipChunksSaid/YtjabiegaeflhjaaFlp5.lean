/-
  Codes the other way round: twice they are as they were. Plain.
  Conditions: none but those that each sentence tells.
-/
import Derived.Test.YtjabiegaeflhjaaFlp4
namespace Go.Proofs.Ytjabiegaeflhjaa
open Go.Pm
set_option maxRecDepth 100000
set_option linter.unusedSimpArgs false
set_option linter.unusedVariables false

/-- One code more, in pieces. -/
def grpP (m : Bool) (A : List (List Int)) (c : Int) : List (List Int) := if m && (!A.isEmpty && markT c) then A.dropLast ++ [A.getLastD [] ++ [c]] else A ++ [[c]]
def pcs (m : Bool) (X : List Int) : List (List Int) := X.foldl (grpP m) []
theorem grpP_last (m : Bool) (A : List (List Int)) (q : List Int) (c : Int) (h : m = true) (hc : markT c = true) : grpP m (A ++ [q]) c = A ++ [q ++ [c]] := by
  unfold grpP
  simp [h, hc]
theorem grpP_new (m : Bool) (A : List (List Int)) (c : Int) (h : m = true → A ≠ [] → markT c = false) : grpP m A c = A ++ [[c]] := by
  unfold grpP
  rw [if_neg]
  intro e
  simp only [Bool.and_eq_true, Bool.not_eq_true', List.isEmpty_eq_false_iff] at e
  rw [h e.1 e.2.1] at e
  cases e.2.2
theorem chI_pcs (m : Bool) (X : List Int) : ∀ i, i ≤ X.length → (chI m X i).map (cutS X) = pcs m (X.take i)
  | 0, _ => rfl
  | i + 1, hi => by
    have ih := chI_pcs m X i (by omega)
    obtain ⟨h1, h2, h3, h4⟩ := chI_ok m X i (by omega)
    have hx : X.take (i + 1) = X.take i ++ [X.getD i default] := by rw [List.take_add_one, List.getD, List.getElem?_eq_getElem (by omega)]; rfl
    have hp : pcs m (X.take (i + 1)) = grpP m (pcs m (X.take i)) (X.getD i default) := by unfold pcs; rw [hx, List.foldl_append]; rfl
    rw [hp, ← ih]
    have he : ((chI m X i).map (cutS X)).isEmpty = (chI m X i).isEmpty := by cases chI m X i <;> rfl
    by_cases hc : (m && (!(chI m X i).isEmpty && markT (X.getD i default))) = true
    · have hL : chI m X i ≠ [] := fun e => by rw [e] at hc; simp at hc
      obtain ⟨L, q, e⟩ := last_cut _ hL
      have hq := h3 L q e
      have hq2 := h2 q (by rw [e]; simp)
      have hc2 := hc
      simp only [Bool.and_eq_true] at hc2
      rw [chI, if_pos hc, e, upL_app, List.map_append, List.map_append]
      rw [show [q].map (cutS X) = [cutS X q] from rfl, grpP_last m _ _ _ hc2.1 hc2.2.2]
      congr 2
      show [cutS X (q.1, (i : Int) + 1)] = [cutS X q ++ [X.getD i default]]
      congr 1
      unfold cutS
      simp only [hq]
      rw [show (((i : Int) + 1).toNat - q.1.toNat) = ((i : Int).toNat - q.1.toNat) + 1 by omega, List.take_add_one]
      congr 1
      rw [List.getElem?_drop, show q.1.toNat + ((i : Int).toNat - q.1.toNat) = i by omega, List.getElem?_eq_getElem (by omega), List.getD, List.getElem?_eq_getElem (by omega)]; rfl
    · rw [chI, if_neg hc, List.map_append]
      unfold grpP
      rw [he, if_neg hc]
      congr 1
      show [cutS X ((i : Int), (i : Int) + 1)] = _
      unfold cutS
      simp only []
      rw [show ((i : Int) + 1).toNat - (i : Int).toNat = 1 by omega, Int.toNat_natCast, List.drop_eq_getElem_cons (by omega), List.take_succ_cons, List.take_zero, List.getD, List.getElem?_eq_getElem (by omega)]; rfl
theorem chk_pcs (m : Bool) (X : List Int) : (chk m X).map (cutS X) = pcs m X := by
  have := chI_pcs m X X.length (Nat.le_refl _)
  rwa [List.take_length] at this
theorem trn_pcs (m : Bool) (X : List Int) : trn m X = (pcs m X).reverse.flatten := by
  rw [← chk_pcs, ← List.map_reverse]
  unfold trn
  rw [List.flatMap_def]
/-- A piece as it should be. -/
def GP (m : Bool) (q : List Int) : Prop := ∃ a ms, q = a :: ms ∧ (m = true → markT a = false ∧ ∀ x ∈ ms, markT x = true) ∧ (m = false → ms = [])
theorem fold_marks (m : Bool) (h : m = true) : ∀ (ms : List Int) (A : List (List Int)) (q : List Int), (∀ x ∈ ms, markT x = true) → ms.foldl (grpP m) (A ++ [q]) = A ++ [q ++ ms]
  | [], A, q, _ => by simp
  | x :: ms, A, q, hx => by
    rw [List.foldl_cons, grpP_last m A q x h (hx x List.mem_cons_self), fold_marks m h ms A _ fun y hy => hx y (List.mem_cons_of_mem _ hy)]
    simp
theorem pcs_flat (m : Bool) : ∀ (Q A : List (List Int)), (∀ q ∈ Q, GP m q) → Q.flatten.foldl (grpP m) A = A ++ Q
  | [], A, _ => by simp
  | q :: Q, A, h => by
    obtain ⟨a, ms, rfl, h1, h2⟩ := h q List.mem_cons_self
    rw [List.flatten_cons, List.foldl_append, List.foldl_cons, grpP_new m A a fun hm _ => (h1 hm).1]
    have : ms.foldl (grpP m) (A ++ [[a]]) = A ++ [a :: ms] := by
      cases m
      · rw [h2 rfl]; rfl
      · exact fold_marks true rfl ms A [a] (h1 rfl).2
    rw [this, pcs_flat m Q _ fun q hq => h q (List.mem_cons_of_mem _ hq)]
    simp
theorem GP_fold (m : Bool) : ∀ (l : List Int) (A : List (List Int)), A ≠ [] → (∀ q ∈ A, GP m q) → ∀ q ∈ l.foldl (grpP m) A, GP m q
  | [], A, _, h => h
  | c :: l, A, hA, h => by
    rw [List.foldl_cons]
    by_cases hc : (m && (!A.isEmpty && markT c)) = true
    · obtain ⟨L, q, rfl⟩ := last_cut A hA
      simp only [Bool.and_eq_true] at hc
      rw [grpP_last m L q c hc.1 hc.2.2]
      refine GP_fold m l _ (by simp) fun q' hq' => ?_
      rcases List.mem_append.1 hq' with hq' | hq'
      · exact h q' (by simp [hq'])
      · rw [List.mem_singleton.1 hq']
        obtain ⟨a, ms, rfl, h1, h2⟩ := h q (by simp)
        refine ⟨a, ms ++ [c], rfl, fun hm => ⟨(h1 hm).1, fun x hx => ?_⟩, fun hm => by rw [hc.1] at hm; cases hm⟩
        rcases List.mem_append.1 hx with hx | hx
        · exact (h1 hm).2 x hx
        · rw [List.mem_singleton.1 hx]; exact hc.2.2
    · have hn : m = true → A ≠ [] → markT c = false := fun hm _ => by
        cases e : markT c with
        | false => rfl
        | true =>
          refine absurd ?_ hc
          have : A.isEmpty = false := by cases A; exact absurd rfl hA; rfl
          rw [hm, this, e]; rfl
      rw [grpP_new m A c hn]
      refine GP_fold m l _ (by simp) fun q' hq' => ?_
      rcases List.mem_append.1 hq' with hq' | hq'
      · exact h q' hq'
      · rw [List.mem_singleton.1 hq']
        exact ⟨c, [], rfl, fun hm => ⟨hn hm hA, fun x hx => by cases hx⟩, fun _ => rfl⟩
theorem pcs_good (m : Bool) (X : List Int) (h : m = true → X ≠ [] → markT (X.getD 0 default) = false) : ∀ q ∈ pcs m X, GP m q := by
  cases X with
  | nil => intro q hq; cases hq
  | cons c l =>
    unfold pcs
    rw [List.foldl_cons, grpP_new m [] c fun _ hn => absurd rfl hn]
    refine GP_fold m l _ (by simp) fun q hq => ?_
    rw [List.nil_append] at hq
    rw [List.mem_singleton.1 hq]
    exact ⟨c, [], rfl, fun hm => ⟨h hm (by simp), fun x hx => by cases hx⟩, fun _ => rfl⟩
theorem pcs_all (m : Bool) (X : List Int) : (pcs m X).flatten = X := by
  rw [← chk_pcs, ← List.flatMap_def]
  exact chk_all m X
theorem trn_twice (m : Bool) (X : List Int) (h : m = true → X ≠ [] → markT (X.getD 0 default) = false) : trn m (trn m X) = X := by
  have hg := pcs_good m X h
  have e : pcs m (trn m X) = (pcs m X).reverse := by
    rw [trn_pcs]
    have := pcs_flat m (pcs m X).reverse [] fun q hq => hg q (List.mem_reverse.1 hq)
    simpa [pcs] using this
  rw [trn_pcs m (trn m X), e, List.reverse_reverse]
  exact pcs_all m X
theorem grpP_map (m : Bool) (f : Int → Int) (hf : ∀ c, markT (f c) = markT c) (A : List (List Int)) (c : Int) : grpP m (A.map (List.map f)) (f c) = (grpP m A c).map (List.map f) := by
  by_cases hA : A = []
  · subst hA
    rw [grpP_new m [] c fun _ h => absurd rfl h, List.map_nil, grpP_new m [] (f c) fun _ h => absurd rfl h]
    rfl
  · obtain ⟨L, q, rfl⟩ := last_cut A hA
    by_cases hc : m = true ∧ markT c = true
    · rw [grpP_last m L q c hc.1 hc.2, List.map_append, List.map_append]
      have := grpP_last m (L.map (List.map f)) (q.map f) (f c) hc.1 (by rw [hf]; exact hc.2)
      simpa using this
    · have hn : m = true → markT c = false := fun hm => by
        cases e : markT c with
        | false => rfl
        | true => exact absurd ⟨hm, e⟩ hc
      rw [grpP_new m (L ++ [q]) c fun hm _ => hn hm, grpP_new m _ (f c) fun hm _ => by rw [hf]; exact hn hm]
      simp
theorem pcs_map (m : Bool) (f : Int → Int) (hf : ∀ c, markT (f c) = markT c) : ∀ (X : List Int) (A : List (List Int)), (X.map f).foldl (grpP m) (A.map (List.map f)) = (X.foldl (grpP m) A).map (List.map f)
  | [], A => rfl
  | c :: X, A => by
    rw [List.map_cons, List.foldl_cons, List.foldl_cons, grpP_map m f hf, pcs_map m f hf X]
theorem trn_map (m : Bool) (f : Int → Int) (hf : ∀ c, markT (f c) = markT c) (X : List Int) : trn m (X.map f) = (trn m X).map f := by
  have : pcs m (X.map f) = (pcs m X).map (List.map f) := by
    have := pcs_map m f hf X []
    simpa [pcs] using this
  rw [trn_pcs, trn_pcs, this, ← List.map_reverse, List.map_flatten]
theorem mir_mark_all : mrs.all (fun p => (markT p.1 == false) && (markT p.2 == false) && (markT (mirT p.1) == false) && (markT (mirT p.2) == false)) = true := by kernel_rfl
theorem mir_mark (c : Int) : markT (mirT c) = markT c := by
  by_cases h : ∃ p ∈ mrs, p.1 = c ∨ p.2 = c
  · obtain ⟨p, hp, hc⟩ := h
    have := List.all_eq_true.1 mir_mark_all p hp
    simp only [Bool.and_eq_true, beq_iff_eq] at this
    rcases hc with rfl | rfl
    · rw [this.1.2, this.1.1.1]
    · rw [this.2, this.1.1.2]
  · have h' : ∀ p ∈ mrs, p.1 ≠ c ∧ p.2 ≠ c := fun p hp => ⟨fun e => h ⟨p, hp, .inl e⟩, fun e => h ⟨p, hp, .inr e⟩⟩
    rw [mirT_skip c h']
theorem rev_twice (m mi : Bool) (X : List Int) (h : m = true → X ≠ [] → markT (X.getD 0 default) = false) : revT m mi false (revT m mi false X) = X := by
  have e : ∀ Y, revT m mi false Y = (trn m Y).map (mf mi) := fun Y => by rw [trn_mf]; rfl
  have hm : ∀ c, markT (mf mi c) = markT c := fun c => by cases mi; rfl; exact mir_mark c
  have h2 : ∀ c, mf mi (mf mi c) = c := fun c => by cases mi; rfl; exact (mir_cases c).2
  rw [e, e, trn_map m _ hm, trn_twice m X h, List.map_map]
  have : mf mi ∘ mf mi = id := by funext c; exact h2 c
  rw [this, List.map_id]
theorem partsB_app : ∀ (l k : List (Int × Int)) (e f n : Int), partsB e l f = true → partsB e (l ++ k) n = partsB f k n
  | [], k, e, f, n, h => by simp only [partsB, decide_eq_true_eq] at h; subst h; rfl
  | p :: l, k, e, f, n, h => by
    simp only [partsB, Bool.and_eq_true] at h
    rw [List.cons_append, partsB, h.1, h.2.1, partsB_app l k _ f n h.2.2]; rfl
theorem partsB_up : ∀ (L : List (Int × Int)) (q : Int × Int) (i z e : Int), q.1 < z → partsB e (L ++ [q]) i = true → partsB e (L ++ [(q.1, z)]) z = true
  | [], q, i, z, e, hz, h => by
    simp only [List.nil_append, partsB, Bool.and_eq_true, decide_eq_true_eq] at h ⊢
    exact ⟨h.1, ⟨h.2.1.1, hz⟩, trivial⟩
  | p :: L, q, i, z, e, hz, h => by
    simp only [List.cons_append, partsB, Bool.and_eq_true] at h ⊢
    exact ⟨h.1, h.2.1, partsB_up L q i z _ hz h.2.2⟩
theorem parts_last : ∀ (L : List (Int × Int)) (q : Int × Int) (e i : Int), partsB e (L ++ [q]) i = true → q.1 < i
  | [], q, e, i, h => by
    simp only [List.nil_append, partsB, Bool.and_eq_true, decide_eq_true_eq] at h
    omega
  | p :: L, q, e, i, h => by
    simp only [List.cons_append, partsB, Bool.and_eq_true] at h
    exact parts_last L q _ i h.2.2
theorem chI_parts (m : Bool) (X : List Int) : ∀ i, partsB 0 (chI m X i) i = true
  | 0 => rfl
  | i + 1 => by
    have ih := chI_parts m X i
    unfold chI
    split
    · rename_i hc
      have hL : chI m X i ≠ [] := fun e => by rw [e] at hc; simp at hc
      obtain ⟨L, q, e⟩ := last_cut _ hL
      rw [e] at ih ⊢
      rw [upL_app]
      exact partsB_up L q i _ _ (by have := parts_last L q _ _ ih; omega) ih
    · rw [partsB_app _ _ _ _ _ ih]
      simp [partsB]; omega
theorem chI_marks (m : Bool) (X : List Int) : ∀ i, i ≤ X.length → ∀ s ∈ chI m X i, ∀ k : Nat, s.1 < k → (k : Int) < s.2 → markT (X.getD k default) = true
  | 0, _, s, hs, _, _, _ => by simp [chI] at hs
  | i + 1, hi, s, hs, k, h1, h2 => by
    have ih := chI_marks m X i (by omega)
    obtain ⟨_, g2, g3, _⟩ := chI_ok m X i (by omega)
    unfold chI at hs
    split at hs
    · rename_i hc
      have hL : chI m X i ≠ [] := fun e => by rw [e] at hc; simp at hc
      obtain ⟨L, q, e⟩ := last_cut _ hL
      have hq := g3 L q e
      rw [e, upL_app] at hs
      rcases List.mem_append.1 hs with hs | hs
      · exact ih s (by rw [e]; simp [hs]) k h1 h2
      · rw [List.mem_singleton.1 hs] at h1 h2
        simp only [] at h1 h2
        rcases Nat.lt_or_ge k i with hk | hk
        · exact ih q (by rw [e]; simp) k h1 (by omega)
        · have : k = i := by omega
          subst this
          simp only [Bool.and_eq_true] at hc
          exact hc.2.2
    · rcases List.mem_append.1 hs with hs | hs
      · exact ih s hs k h1 h2
      · rw [List.mem_singleton.1 hs] at h1 h2
        simp only [] at h1 h2
        omega
theorem chI_many (X : List Int) : ∀ i, (chI false X i).length = i
  | 0 => rfl
  | i + 1 => by rw [chI]; simp [chI_many X i]
theorem mark_class {c : Int} (h : markT c = true) : classT c = 8 := by
  unfold markT markC at h
  simpa using h
end Go.Proofs.Ytjabiegaeflhjaa
