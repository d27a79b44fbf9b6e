/-
  An abstract machine over pure values, part R: plain facts on lists that the walks share.
  Conditions: none.
-/
import Derived.Test.YtdllafendiaplaaPmQ
namespace Go.Pm
set_option linter.unusedVariables false
set_option linter.unusedSimpArgs false

section
variable {P : Program} {L : List Nat} {Q : Exit → Sl → Heap → Prop} {σ : Sl} {h : Heap}
/-- A loop whose measure falls. -/
theorem pwp_fall {a : PC} (J : Nat → Sl → Heap → Prop) (N : Nat) (h0 : J N σ h)
    (round : ∀ m σ h (K : Sl → Heap → Prop), J m σ h → (∀ m' σ' h', m' < m → J m' σ' h' → K σ' h') → pwp P L a (thn K Q) σ h) : pwp P L (.loop a) Q σ h :=
  pwp_loop J N h0 fun m σ h hj => round m σ h _ hj fun m' σ' h' hm q => ⟨m', hm, q⟩
end
theorem fresh_or {h : Heap} {b b' : Nat} {cs : List PV} (hb : h.f b = none) (e : b' = b ∨ (h.set b cs).f b' = none) : h.f b' = none := by
  rcases e with rfl | e
  · exact hb
  · by_cases q : b' = b
    · rw [q]; exact hb
    · rwa [Heap.set_ne _ _ q] at e
theorem Heap.le_none {h g : Heap} (l : h.le g) {b : Nat} (e : g.f b = none) : h.f b = none := by
  cases e2 : h.f b with
  | none => rfl
  | some c => rw [l _ _ e2] at e; cases e
theorem olds_flat {α : Type} (f g : α → List PV) (e : ∀ x, olds (f x) = g x) (l : List α) : olds (l.flatMap f) = l.flatMap g := by
  induction l with
  | nil => rfl
  | cons p l ih => rw [List.flatMap_cons, olds_eq, List.map_append, ← olds_eq, ← olds_eq, ih, e]; rfl
/-- The first that is so, counted from `i` on; -1: none. -/
def findI {α : Type} (q : α → Bool) : List α → Int → Int
  | [], _ => -1
  | p :: l, i => if q p then i else findI q l (i + 1)
theorem findI_cases {α : Type} [Inhabited α] (q : α → Bool) : ∀ (l : List α) (i : Int), (findI q l i = -1 ∧ ∀ p ∈ l, q p = false) ∨ ∃ j : Nat, j < l.length ∧ findI q l i = i + j ∧ q (l.getD j default) = true ∧ ∀ k, k < j → q (l.getD k default) = false
  | [], i => .inl ⟨rfl, by simp⟩
  | p :: l, i => by
    cases hp : q p
    · rcases findI_cases q l (i + 1) with ⟨e, a⟩ | ⟨j, h1, h2, h3, h4⟩
      · exact .inl ⟨by simpa [findI, hp] using e, by simpa [hp] using a⟩
      · refine .inr ⟨j + 1, by simpa using h1, by simp only [findI, hp, Bool.false_eq_true, if_false, h2]; omega, by simpa using h3, fun k hk => ?_⟩
        cases k with
        | zero => simpa using hp
        | succ k => simpa using h4 k (by omega)
    · exact .inr ⟨0, by simp, by simp [findI, hp], by simpa using hp, fun k hk => by omega⟩
theorem findI_nonneg {α : Type} (q : α → Bool) : ∀ (l : List α) (i : Int), 0 ≤ i → (decide (0 ≤ findI q l i) = l.any q)
  | [], i, _ => by simp [findI]
  | p :: l, i, hi => by
    cases hp : q p
    · simp [findI, hp, findI_nonneg q l (i + 1) (by omega)]
    · simp [findI, hp, hi]
/-- A row turned step by step: the first `i` and the last `i` have changed places. -/
def swapd {α : Type} [Inhabited α] (l : List α) : Nat → List α
  | 0 => l
  | i + 1 => ((swapd l i).set i ((swapd l i).getD (l.length - 1 - i) default)).set (l.length - 1 - i) ((swapd l i).getD i default)
theorem swapd_len {α : Type} [Inhabited α] (l : List α) : ∀ i, (swapd l i).length = l.length
  | 0 => rfl
  | i + 1 => by simp [swapd, swapd_len l i]
theorem swapd_get {α : Type} [Inhabited α] (l : List α) : ∀ i, 2 * i ≤ l.length → ∀ k, (swapd l i)[k]? = if k < i ∨ l.length - i ≤ k then l.reverse[k]? else l[k]?
  | 0, h, k => by
    rw [swapd]
    split
    · rw [List.getElem?_eq_none (by omega), List.getElem?_eq_none (by simp; omega)]
    · rfl
  | i + 1, h, k => by
    have ih := swapd_get l i (by omega)
    have hl := swapd_len l i
    have e1 : (swapd l i).getD i default = l.getD i default := by
      simp only [List.getD, ih i]
      rw [if_neg (by omega)]
    have e2 : (swapd l i).getD (l.length - 1 - i) default = l.getD (l.length - 1 - i) default := by
      simp only [List.getD, ih (l.length - 1 - i)]
      rw [if_neg (by omega)]
    simp only [swapd, e1, e2, List.getElem?_set, List.length_set, hl, ih k]
    by_cases q1 : l.length - 1 - i = k
    · subst q1
      rw [if_pos rfl, if_pos (by omega), if_pos (by omega), List.getElem?_reverse (by omega)]
      simp only [List.getD, show l.length - 1 - (l.length - 1 - i) = i by omega]
      rw [List.getElem?_eq_getElem (by omega)]; simp
    · rw [if_neg q1]
      by_cases q2 : i = k
      · subst q2
        rw [if_pos rfl, if_pos (by omega), if_pos (by omega), List.getElem?_reverse (by omega)]
        simp only [List.getD]
        rw [List.getElem?_eq_getElem (by omega)]; simp
      · rw [if_neg q2]
        by_cases q3 : k < i ∨ l.length - i ≤ k
        · rw [if_pos q3, if_pos (by omega)]
        · rw [if_neg q3, if_neg (by omega)]
theorem swapd_rev {α : Type} [Inhabited α] (l : List α) : swapd l (l.length / 2) = l.reverse := by
  apply List.ext_getElem?
  intro k
  rw [swapd_get l _ (by omega)]
  split
  · rfl
  · by_cases q : k < l.length
    · rw [List.getElem?_reverse q]; congr 1; omega
    · rw [List.getElem?_eq_none (by omega), List.getElem?_eq_none (by simp; omega)]
theorem take_succ_map {α β : Type} [Inhabited α] (f : α → β) (l : List α) {i : Nat} (h : i < l.length) : (l.take (i + 1)).map f = (l.take i).map f ++ [f (l.getD i default)] := by
  rw [List.take_succ_eq_append_getElem h, List.map_append]; simp only [List.map_cons, List.map_nil, List.getD, List.getElem?_eq_getElem h, Option.getD_some]
theorem take_succ_flat {α β : Type} [Inhabited α] (f : α → List β) (l : List α) {i : Nat} (h : i < l.length) : (l.take (i + 1)).flatMap f = (l.take i).flatMap f ++ f (l.getD i default) := by
  rw [List.take_succ_eq_append_getElem h, List.flatMap_append]; simp only [List.flatMap_cons, List.flatMap_nil, List.append_nil, List.getD, List.getElem?_eq_getElem h, Option.getD_some]
/-- A row that is filled from its beginning on. -/
theorem fill_set {α β : Type} [Inhabited α] (f : α → β) (z : β) (l : List α) {i : Nat} (h : i < l.length) : ((l.take i).map f ++ List.replicate (l.length - i) z).set i (f (l.getD i default)) = (l.take (i + 1)).map f ++ List.replicate (l.length - (i + 1)) z := by
  rw [List.set_append_right _ _ (by simp; omega)]
  simp only [List.length_map, List.length_take, Nat.min_eq_left (Nat.le_of_lt h), Nat.sub_self]
  rw [show l.length - i = (l.length - (i + 1)) + 1 by omega, List.replicate_succ, List.set_cons_zero, take_succ_map f l h, List.append_assoc]; rfl
theorem fill_same {α β : Type} [Inhabited α] [Inhabited β] (f : α → β) (z : β) (l : List α) {i : Nat} (h : i < l.length) (e : f (l.getD i default) = z) : (l.take i).map f ++ List.replicate (l.length - i) z = (l.take (i + 1)).map f ++ List.replicate (l.length - (i + 1)) z := by
  rw [take_succ_map f l h, e, show l.length - i = (l.length - (i + 1)) + 1 by omega, List.replicate_succ, List.append_assoc]; rfl
/-- One more of a row of whole numbers has been written. -/
theorem take_drop_set {α : Type} (f : α → α) (l : List α) [Inhabited α] {i : Nat} (h : i < l.length) : ((l.take i).map f ++ l.drop i).set i (f (l.getD i default)) = (l.take (i + 1)).map f ++ l.drop (i + 1) := by
  rw [List.set_append_right _ _ (by simp; omega)]
  simp only [List.length_map, List.length_take, Nat.min_eq_left (Nat.le_of_lt h), Nat.sub_self]
  rw [drop_getD l h, List.set_cons_zero, List.take_succ_eq_append_getElem h]
  simp only [List.map_append, List.map_cons, List.map_nil, List.append_assoc, List.singleton_append, List.getD, List.getElem?_eq_getElem h, Option.getD_some]
end Go.Pm
