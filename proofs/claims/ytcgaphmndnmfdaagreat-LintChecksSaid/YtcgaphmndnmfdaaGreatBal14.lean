/-
  Plain: of what is even nothing is changed again, and no paragraph of it has anything loose or open.
-/
import Derived.Test.YtcgaphmndnmfdaaGreatBalC
namespace Go.Proofs.YtcgaphmndnmfdaaGreat
open Go.Pm
open Nat renaming reduceEqDiff → nE, reduceAdd → nA, reduceMul → nM, reduceLeDiff → nD, reduceLT → nL
open Int renaming reduceLE → iL, reduceLT → iT, reduceEq → iE, reduceToNat → iN, cast_ofNat_Int → iC
set_option maxRecDepth 100000
set_option linter.unusedSimpArgs false
set_option linter.unusedVariables false

/-! ### The paragraphs of a text -/
def Bd (X : List Int) (b : Int) : Prop := b = 0 ∨ ∃ k : Nat, k < X.length ∧ b = ((k + 1 : Nat) : Int) ∧ brkT X k = true
def NoB (X : List Int) (lo : Int) (hi : Nat) : Prop := ∀ j : Nat, lo ≤ (j : Int) → j < hi → brkT X j = false
def CutOk (X : List Int) (s : Int × Int) : Prop := Bd X s.1 ∧ ∃ k : Nat, k < X.length ∧ s.2 = ((k + 1 : Nat) : Int) ∧ NoB X s.1 k ∧ (brkT X k = true ∨ k + 1 = X.length)
theorem spl_spec (X : List Int) : ∀ i, i ≤ X.length → Bd X (spl X i).2 ∧ NoB X (spl X i).2 i ∧ ∀ s ∈ (spl X i).1, CutOk X s
  | 0, _ => ⟨.inl rfl, fun j a b => by omega, fun s h => by simp [spl] at h⟩
  | i + 1, hi => by
    obtain ⟨h1, h3, h4⟩ := spl_spec X i (by omega)
    rw [spl]
    cases q : brkT X i
    · rw [if_neg (by simp)]
      refine ⟨h1, fun j a b => ?_, h4⟩
      by_cases e : j = i
      · rw [e]; exact q
      · exact h3 j a (by omega)
    · rw [if_pos rfl]
      refine ⟨.inr ⟨i, by omega, rfl, q⟩, fun j a b => ?_, fun s hs => ?_⟩
      · have a' : ((i + 1 : Nat) : Int) ≤ (j : Int) := a
        omega
      · rcases List.mem_append.1 hs with g | g
        · exact h4 s g
        · rw [List.mem_singleton.1 g]
          exact ⟨h1, i, by omega, rfl, h3, .inl q⟩
theorem split_spec (X : List Int) : ∀ s ∈ splitT X, CutOk X s := by
  obtain ⟨h1, h3, h4⟩ := spl_spec X X.length (Nat.le_refl _)
  have hin := spl_in X X.length
  intro s hs
  unfold splitT at hs
  rcases List.mem_append.1 hs with g | g
  · exact h4 s g
  · split at g
    · rename_i hlt
      rw [List.mem_singleton.1 g]
      exact ⟨h1, X.length - 1, by omega, by show (X.length : Int) = _; omega, fun j a b => h3 j a (by omega), .inr (by omega)⟩
    · cases g
theorem brk_no {X : List Int} {j : Nat} (h : brkT X j = false) (hc : classT (X.getD j default) = 10) : X.getD j default = 13 ∧ j + 1 < X.length ∧ X.getD (j + 1) default = 10 := by
  unfold brkT at h
  rw [decide_eq_true hc, Bool.true_and, Bool.not_eq_false'] at h
  simp only [Bool.and_eq_true, decide_eq_true_eq] at h
  exact h
theorem brk_cls {X : List Int} {j : Nat} (h : brkT X j = true) : classT (X.getD j default) = 10 := by
  unfold brkT at h
  simp only [Bool.and_eq_true, decide_eq_true_eq] at h
  exact h.1
theorem brk_lf {X : List Int} {j : Nat} (h : X.getD j default = 10) : brkT X j = true := by
  unfold brkT
  rw [h]; rfl
theorem cut_get {X : List Int} {s : Int × Int} {j : Nat} (h : j < (cutS X s).length) : (cutS X s).getD j default = X.getD (s.1.toNat + j) default := by
  unfold cutS at h ⊢
  rw [List.length_take, List.length_drop] at h
  rw [List.getD, List.getElem?_take_of_lt (by omega), List.getElem?_drop]; rfl
theorem body_spec (X : List Int) (s : Int × Int) (hs : s ∈ splitT X) : (∀ i, i < bodyT (cutS X s) → classT ((cutS X s).getD i default) ≠ 10) ∧ ∀ i, bodyT (cutS X s) ≤ i → i < (cutS X s).length → classT ((cutS X s).getD i default) = 10 := by
  obtain ⟨g1, g2, g3⟩ := split_in X s hs
  obtain ⟨-, k, hk, e2, nb, -⟩ := split_spec X s hs
  have hlen := cutS_len X g1 (by omega) g3
  have get := fun j (h : j < (cutS X s).length) => cut_get h
  have e1 : s.1 = ((s.1.toNat : Nat) : Int) := by omega
  generalize s.1.toNat = lo at *
  generalize cutS X s = P at *
  rw [e1] at nb
  have hn : P.length = k + 1 - lo := by omega
  have hlo : lo ≤ k := by omega
  have inner : ∀ j, j + 1 < P.length → classT (P.getD j default) = 10 → j + 2 = P.length ∧ P.getD j default = 13 ∧ P.getD (j + 1) default = 10 := by
    intro j hj hc
    rw [get j (by omega)] at hc ⊢
    rw [get (j + 1) hj]
    obtain ⟨a1, a2, a3⟩ := brk_no (nb (lo + j) (by omega) (by omega)) hc
    refine ⟨?_, a1, a3⟩
    by_cases q : j + 2 = P.length
    · exact q
    · have := nb (lo + j + 1) (by omega) (by omega)
      rw [brk_lf a3] at this; cases this
  by_cases hc : classT (P.getD (P.length - 1) default) = 10
  · have hN : ¬ (P.length = 0 ∨ classT (P.getD (P.length - 1) default) ≠ 10) := by rintro (a | a); omega; exact a hc
    by_cases h2 : 1 < P.length ∧ P.getD (P.length - 2) default = 13 ∧ P.getD (P.length - 1) default = 10
    · have hbd : bodyT P = P.length - 2 := by rw [bodyT, if_neg hN, if_pos h2]
      rw [hbd]
      refine ⟨fun i hi e => ?_, fun i h1 h3 => ?_⟩
      · have := (inner i (by omega) e).1; omega
      · by_cases q : i = P.length - 1
        · rw [q]; exact hc
        · rw [show i = P.length - 2 by omega, h2.2.1]; rfl
    · have hbd : bodyT P = P.length - 1 := by rw [bodyT, if_neg hN, if_neg h2]
      rw [hbd]
      refine ⟨fun i hi e => ?_, fun i h1 h3 => ?_⟩
      · obtain ⟨b1, b2, b3⟩ := inner i (by omega) e
        exact h2 ⟨by omega, by rw [show P.length - 2 = i by omega]; exact b2, by rw [show P.length - 1 = i + 1 by omega]; exact b3⟩
      · rw [show i = P.length - 1 by omega]; exact hc
  · have hbd : bodyT P = P.length := by rw [bodyT, if_pos (.inr hc)]
    rw [hbd]
    refine ⟨fun i hi e => ?_, fun i h1 h3 => by omega⟩
    by_cases q : i = P.length - 1
    · rw [q] at e; exact hc e
    · obtain ⟨b1, b2, b3⟩ := inner i (by omega) e
      apply hc
      rw [show P.length - 1 = i + 1 by omega, b3]; rfl
/-! ### Texts of which all is even, up to each end of a paragraph -/
def GQ (X : List Int) : Prop := rn [] X = some [] ∧ ∀ i, i < X.length → classT (X.getD i default) = 10 → rn [] (X.take (i + 1)) = some []
theorem GQ.app {A B : List Int} (a : GQ A) (b : GQ B) : GQ (A ++ B) := by
  refine ⟨by rw [rn_app, a.1, Option.bind_some, b.1], fun i hi hc => ?_⟩
  rcases Nat.lt_or_ge i A.length with h | h
  · rw [List.take_append_of_le_length (by omega)]
    refine a.2 i h ?_
    rw [List.getD, List.getElem?_append_left h] at hc
    exact hc
  · obtain ⟨j, rfl⟩ : ∃ j, i = A.length + j := ⟨i - A.length, by omega⟩
    rw [List.length_append] at hi
    rw [show A.length + j + 1 = A.length + (j + 1) by omega, List.take_length_add_append, rn_app, a.1, Option.bind_some]
    refine b.2 j (by omega) ?_
    rw [List.getD, List.getElem?_append_right (by omega), show A.length + j - A.length = j by omega] at hc
    exact hc
theorem GQ.flat {α : Type} (f : α → List Int) : ∀ L : List α, (∀ s ∈ L, GQ (f s)) → GQ (L.flatMap f)
  | [], _ => ⟨rfl, fun i hi => by simp at hi⟩
  | s :: L, h => by
    rw [List.flatMap_cons]
    exact (h s (by simp)).app (GQ.flat f L fun s hs => h s (by simp [hs]))
theorem abs10 (a : List Bool) : absS a 10 = some a := by rfl
theorem rn_ten : ∀ (B : List Int), (∀ x ∈ B, classT x = 10) → ∀ a, rn a B = some a
  | [], _, a => rfl
  | x :: B, h, a => by
    rw [rn, h x (by simp), abs10, Option.bind_some]
    exact rn_ten B (fun y hy => h y (by simp [hy])) a
theorem rn_ends (C : List Int) : ∀ l : List Int, rn (l.map (isoB C)) (l.map (endC C)) = some []
  | [] => rfl
  | x :: l => by
    have ih := rn_ends C l
    rw [List.map_cons, List.map_cons, rn]
    have e : absS (isoB C x :: l.map (isoB C)) (classT (endC C x)) = some (l.map (isoB C)) := by
      have q : endC C x = if isoB C x = true then 8297 else 8236 := rfl
      rw [q]
      cases isoB C x <;> rfl
    rw [e, Option.bind_some, ih]
theorem ends_cls (C : List Int) (x : Int) : classT (endC C x) ≠ 10 := by
  have q : endC C x = if isoB C x = true then 8297 else 8236 := rfl
  rw [q]
  cases isoB C x
  · exact (by decide : (18 : Int) ≠ 10)
  · exact (by decide : (22 : Int) ≠ 10)
theorem kp_mem (X : List Int) : ∀ n, n ≤ X.length → ∀ x ∈ kpN X n, ∃ i, i < n ∧ x = X.getD i default
  | 0, _, x, h => by simp [kpN] at h
  | n + 1, hn, x, h => by
    have ih := kp_mem X n (by omega)
    rw [kpN] at h
    split at h
    · obtain ⟨i, a, b⟩ := ih x h; exact ⟨i, by omega, b⟩
    · rcases List.mem_append.1 h with g | g
      · obtain ⟨i, a, b⟩ := ih x g; exact ⟨i, by omega, b⟩
      · exact ⟨n, by omega, List.mem_singleton.1 g⟩
theorem wk_ten (X : List Int) (e : Nat) (he : ∀ i, e ≤ i → i < X.length → classT (X.getD i default) = 10) : ∀ n, e + n ≤ X.length → wk (cls X) (e + n) = wk (cls X) e
  | 0, _ => rfl
  | n + 1, h => by
    have ih := wk_ten X e he n (by omega)
    rw [← Nat.add_assoc, wk, cls_get X (by omega), he (e + n) (by omega) (by omega), ih]
    rfl
theorem even_gq (X : List Int) (s : Int × Int) (hs : s ∈ splitT X) : GQ (evenT (cutS X s)) := by
  obtain ⟨b1, b2⟩ := body_spec X s hs
  generalize cutS X s = P at *
  have hb := body_le P
  have hw : wkT (cls P) = wk (cls P) (bodyT P) := by
    have := wk_ten P (bodyT P) b2 (P.length - bodyT P) (by omega)
    rw [show bodyT P + (P.length - bodyT P) = P.length by omega] at this
    rw [wkT, cls_len, this]
  have ht : sty P (wkT (cls P)).ls (bodyT P) (P.length - bodyT P) = P.drop (bodyT P) := by
    rw [sty_all P _ _ _ (by omega) fun k hk hm => ?_, List.take_of_length_le (by simp)]
    rw [wkT, cls_len] at hm
    obtain ⟨k', a, b, c⟩ := (loose_mem P P.length (Nat.le_refl _) _).1 hm
    have e : k' = bodyT P + k := by omega
    rw [e, b2 _ (by omega) (by omega), abs10] at c
    cases c
  have hk := sty_kp P (bodyT P) hb
  have hr := kp_rn P (bodyT P) hb
  have hK := kp_mem P (bodyT P) hb
  have hD : ∀ x ∈ P.drop (bodyT P), classT x = 10 := fun x hx => by
    obtain ⟨i, hi, rfl⟩ := List.mem_iff_getElem.1 hx
    rw [List.length_drop] at hi
    have := b2 (bodyT P + i) (by omega) (by omega)
    rw [List.getD, List.getElem?_eq_getElem (by omega)] at this
    rw [List.getElem_drop]; exact this
  have he : rn [] (kpN P (bodyT P) ++ endsT (cls P)) = some [] := by
    rw [rn_app, hr, Option.bind_some, endsT, hw]
    exact rn_ends (cls P) _
  rw [evenT, ht, hk]
  generalize P.drop (bodyT P) = D at *
  refine ⟨by rw [rn_app, he, Option.bind_some, rn_ten D hD], fun i hi hc => ?_⟩
  rcases Nat.lt_or_ge i (kpN P (bodyT P) ++ endsT (cls P)).length with h | h
  · exfalso
    rw [List.getD, List.getElem?_append_left h, List.getElem?_eq_getElem h] at hc
    have hm : (kpN P (bodyT P) ++ endsT (cls P))[i] ∈ kpN P (bodyT P) ++ endsT (cls P) := List.getElem_mem h
    generalize (kpN P (bodyT P) ++ endsT (cls P))[i] = x at *
    have hc' : classT x = 10 := hc
    rcases List.mem_append.1 hm with g | g
    · obtain ⟨j, a, b⟩ := hK x g
      rw [b] at hc'
      exact b1 j a hc'
    · rw [endsT] at g
      obtain ⟨y, -, rfl⟩ := List.mem_map.1 g
      exact ends_cls _ y hc'
  · obtain ⟨j, rfl⟩ : ∃ j, i = (kpN P (bodyT P) ++ endsT (cls P)).length + j := ⟨i - (kpN P (bodyT P) ++ endsT (cls P)).length, by omega⟩
    rw [Nat.add_assoc, List.take_length_add_append, rn_app, he, Option.bind_some]
    exact rn_ten _ (fun x hx => hD x (List.mem_of_mem_take hx)) _
theorem evenX_gq (X : List Int) : GQ (evenX X) := GQ.flat _ _ fun s hs => even_gq X s hs
theorem gq_cut {Z : List Int} (g : GQ Z) (s : Int × Int) (hs : s ∈ splitT Z) : rn [] (cutS Z s) = some [] := by
  obtain ⟨g1, g2, g3⟩ := split_in Z s hs
  obtain ⟨hb, k, hk, e2, nb, hk2⟩ := split_spec Z s hs
  have h1 : rn [] (Z.take s.1.toNat) = some [] := by
    rcases hb with e | ⟨j, hj, e, hbr⟩
    · rw [e]; rfl
    · rw [e, show ((j + 1 : Nat) : Int).toNat = j + 1 from rfl]
      exact g.2 j hj (brk_cls hbr)
  have h2 : rn [] (Z.take s.2.toNat) = some [] := by
    rw [e2, show ((k + 1 : Nat) : Int).toNat = k + 1 from rfl]
    rcases hk2 with q | q
    · exact g.2 k hk (brk_cls q)
    · rw [q, List.take_length]; exact g.1
  have e : Z.take s.2.toNat = Z.take s.1.toNat ++ cutS Z s := by
    unfold cutS
    have := List.take_append_drop s.1.toNat (Z.take s.2.toNat)
    rw [List.take_take, List.drop_take] at this
    rw [Nat.min_eq_left (by omega)] at this
    exact this.symm
  rw [e, rn_app, h1, Option.bind_some] at h2
  exact h2
theorem cover (X : List Int) : ∀ (l : List (Int × Int)) (e n : Int), 0 ≤ e → partsB e l n = true → l.flatMap (cutS X) = (X.drop e.toNat).take (n.toNat - e.toNat)
  | [], e, n, h0, h => by
    simp only [partsB, decide_eq_true_eq] at h
    subst h
    simp
  | p :: l, e, n, h0, h => by
    have hin := parts_in (p :: l) e n h0 h
    simp only [partsB, Bool.and_eq_true, decide_eq_true_eq] at h
    obtain ⟨h1, ⟨h2, h3⟩, h4⟩ := h
    have ih := cover X l p.2 n (by omega) h4
    have hp := hin.2 p (by simp)
    rw [List.flatMap_cons, ih]
    unfold cutS
    rw [← h1]
    have q1 : p.1.toNat ≤ p.2.toNat := by omega
    have q2 : p.2.toNat ≤ n.toNat := by omega
    have e3 : n.toNat - p.1.toNat = (p.2.toNat - p.1.toNat) + (n.toNat - p.2.toNat) := by omega
    rw [e3, List.take_add, List.drop_drop, show p.1.toNat + (p.2.toNat - p.1.toNat) = p.2.toNat by omega]
theorem split_cover (X : List Int) : (splitT X).flatMap (cutS X) = X := by
  rw [cover X _ _ _ (by omega) (split_parts X)]
  simp
theorem evens_same (X : List Int) (h : ∀ s ∈ splitT X, evenT (cutS X s) = cutS X s) : evenX X = X := by
  have e : evenX X = (splitT X).flatMap (cutS X) := by
    unfold evenX
    generalize splitT X = L at *
    induction L with
    | nil => rfl
    | cons s L ih => rw [List.flatMap_cons, List.flatMap_cons, h s (by simp), ih fun s hs => h s (by simp [hs])]
  rw [e, split_cover]
theorem even_twice (X : List Int) : evenX (evenX X) = evenX X := by
  refine evens_same _ fun s hs => ?_
  obtain ⟨a, b⟩ := good_walk (gq_cut (evenX_gq X) s hs)
  exact even_same a b
theorem even_done (X : List Int) (s : Int × Int) (hs : s ∈ splitT (evenX X)) : (wkT (cls (cutS (evenX X) s))).st = [] ∧ (wkT (cls (cutS (evenX X) s))).ls = [] := good_walk (gq_cut (evenX_gq X) s hs)
theorem level_same (X : List Int) (h : evLevel X = true) : evenX X = X := by
  refine evens_same _ fun s hs => ?_
  rw [evLevel, Bool.not_eq_true', List.any_eq_false] at h
  have := h s hs
  rw [unevB, unevW, decide_eq_true_eq] at this
  refine even_same (List.eq_nil_of_length_eq_zero (by omega)) (List.eq_nil_of_length_eq_zero (by omega))
theorem evenX_le (X : List Int) : (evenX X).length ≤ 2 * X.length := by
  have h : ∀ L : List (Int × Int), (L.flatMap fun s => evenT (cutS X s)).length ≤ 2 * (L.flatMap (cutS X)).length := fun L => by
    induction L with
    | nil => simp
    | cons s L ih =>
      have := even_len (cutS X s)
      rw [List.flatMap_cons, List.flatMap_cons, List.length_append, List.length_append]; omega
  have := h (splitT X)
  rw [split_cover] at this
  exact this
end Go.Proofs.YtcgaphmndnmfdaaGreat
