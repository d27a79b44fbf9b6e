/-
  An abstract machine over pure values, part T: rows that are put in order, plainly: cells and elements, changes of places, what an order keeps.
  Conditions: none.
-/
import Derived.Test.YtdllafendiaplaaPmS
namespace Go.Pm
set_option linter.unusedVariables false
set_option linter.unusedSimpArgs false
set_option linter.unusedSectionVars false

/-! ### Cells of a part of a live block -/
def rowC {α : Type} (enc : α → List PV) (pre post : List PV) (l : List α) : List PV := pre ++ l.flatMap enc ++ post
section
variable {α : Type} [Inhabited α] {enc : α → List PV} {E : Nat} (he : ∀ x, (enc x).length = E) {pre post : List PV} {l : List α} {i : Nat}
include he
theorem rowC_len : (rowC enc pre post l).length = pre.length + l.length * E + post.length := by
  unfold rowC; rw [List.length_append, List.length_append, flat_length enc E he]
theorem rowC_in (h : i < l.length) : pre.length + i * E + E ≤ (rowC enc pre post l).length := by
  rw [rowC_len he]
  have : (i + 1) * E ≤ l.length * E := Nat.mul_le_mul_right _ h
  rw [Nat.add_mul] at this; omega
theorem rowC_at (h : i < l.length) : ((rowC enc pre post l).drop (pre.length + i * E)).take E = enc (l.getD i default) := by
  unfold rowC
  have hl : (i + 1) * E ≤ l.length * E := Nat.mul_le_mul_right _ h
  rw [Nat.add_mul] at hl
  have hf := flat_length enc E he l
  rw [List.append_assoc, List.drop_append, List.drop_eq_nil_of_le (by omega), List.nil_append, show pre.length + i * E - pre.length = i * E by omega, List.drop_append_of_le_length (by omega), List.take_append_of_le_length (by rw [List.length_drop]; omega), flat_at enc E he l h]
theorem rowC_wr (h : i < l.length) (x : α) : wr (rowC enc pre post l) (pre.length + i * E) (enc x) = rowC enc pre post (l.set i x) := by
  unfold rowC
  rw [← wr_flat enc E he x l h]
  have hl : (i + 1) * E ≤ l.length * E := Nat.mul_le_mul_right _ h
  rw [Nat.add_mul] at hl
  have hf := flat_length enc E he l
  simp only [wr, he]
  rw [List.append_assoc pre, List.take_append, List.take_of_length_le (by omega), show pre.length + i * E - pre.length = i * E by omega, List.take_append_of_le_length (by omega)]
  rw [List.drop_append, List.drop_eq_nil_of_le (as := pre) (by omega), List.nil_append, show pre.length + i * E + E - pre.length = i * E + E by omega, List.drop_append_of_le_length (by omega)]
  simp only [List.append_assoc]
end
theorem rowC_int {pre post : List PV} {l : List Int} {i : Nat} (h : i < l.length) : (rowC (fun x => [PV.int .i64 x]) pre post l)[pre.length + i]? = some (.int .i64 (l.getD i default)) := by
  have := rowC_at (enc := fun x => [PV.int .i64 x]) (E := 1) (fun _ => rfl) (pre := pre) (post := post) h
  rw [Nat.mul_one] at this
  have h2 := congrArg (fun l : List PV => l[0]?) this
  simpa [List.getElem?_take, List.getElem?_drop] using h2

/-! ### Changing places -/
def swp {α : Type} [Inhabited α] (l : List α) (i j : Nat) : List α := (l.set i (l.getD j default)).set j (l.getD i default)
theorem swp_len {α : Type} [Inhabited α] (l : List α) (i j : Nat) : (swp l i j).length = l.length := by simp [swp]
def swpR {α : Type} [Inhabited α] (l : List α) (i j : Nat) : Nat → List α
  | 0 => l
  | m + 1 => swp (swpR l i j m) (i + m) (j + m)
theorem swpR_len {α : Type} [Inhabited α] (l : List α) (i j : Nat) : ∀ m, (swpR l i j m).length = l.length
  | 0 => rfl
  | m + 1 => by rw [swpR, swp_len, swpR_len]
theorem swpR_get {α : Type} [Inhabited α] (l : List α) (i j : Nat) : ∀ m, i + m ≤ j → j + m ≤ l.length → ∀ k, (swpR l i j m)[k]? = if i ≤ k ∧ k < i + m then l[k - i + j]? else if j ≤ k ∧ k < j + m then l[k - j + i]? else l[k]?
  | 0, _, _, k => by rw [swpR, if_neg (by omega), if_neg (by omega)]
  | m + 1, h1, h2, k => by
    have hl := swpR_len l i j m
    have ih := swpR_get l i j m (by omega) (by omega)
    have e1 : (swpR l i j m).getD (j + m) default = l.getD (j + m) default := by
      simp only [List.getD, ih]; rw [if_neg (by omega), if_neg (by omega)]
    have e2 : (swpR l i j m).getD (i + m) default = l.getD (i + m) default := by
      simp only [List.getD, ih]; rw [if_neg (by omega), if_neg (by omega)]
    rw [swpR, swp, e1, e2]
    simp only [List.getElem?_set, List.length_set, hl, ih k]
    by_cases q1 : j + m = k
    · subst q1
      rw [if_pos rfl, if_pos (by omega), if_neg (by omega), if_pos (by omega)]
      simp only [List.getD, show j + m - j + i = i + m by omega]
      rw [List.getElem?_eq_getElem (by omega)]; simp
    · rw [if_neg q1]
      by_cases q2 : i + m = k
      · subst q2
        rw [if_pos rfl, if_pos (by omega), if_pos (by omega)]
        simp only [List.getD, show i + m - i + j = j + m by omega]
        rw [List.getElem?_eq_getElem (by omega)]; simp
      · rw [if_neg q2]
        by_cases q3 : i ≤ k ∧ k < i + m
        · rw [if_pos q3, if_pos (by omega)]
        · rw [if_neg q3, if_neg (show ¬ (i ≤ k ∧ k < i + (m + 1)) by omega)]
          by_cases q4 : j ≤ k ∧ k < j + m
          · rw [if_pos q4, if_pos (show j ≤ k ∧ k < j + (m + 1) by omega)]
          · rw [if_neg q4, if_neg (show ¬ (j ≤ k ∧ k < j + (m + 1)) by omega)]
/-- Two parts of one length have changed places. -/
theorem swpR_parts {α : Type} [Inhabited α] (P X M Y Q : List α) (h : X.length = Y.length) : swpR (P ++ X ++ M ++ Y ++ Q) P.length (P.length + X.length + M.length) X.length = P ++ Y ++ M ++ X ++ Q := by
  apply List.ext_getElem?
  intro k
  rw [swpR_get _ _ _ _ (by omega) (by simp; omega)]
  simp only [List.getElem?_append, List.length_append, List.append_assoc, h]
  repeat' split
  all_goals first | omega | (congr 1; omega) | rfl
theorem swp_next {α : Type} [Inhabited α] (P : List α) (x y : α) (Q : List α) : swp (P ++ x :: y :: Q) P.length (P.length + 1) = P ++ y :: x :: Q := by
  have := swpR_parts P [x] [] [y] Q rfl
  simpa [swpR] using this

/-! ### What an order keeps -/
section
variable {α : Type} (key : α → Int)
def Srt (l : List α) : Prop := l.Pairwise fun x y => key x ≤ key y
/-- Of each key the same ones in the same order. -/
def Fil (l m : List α) : Prop := ∀ k, l.filter (fun x => decide (key x = k)) = m.filter fun x => decide (key x = k)
variable {key}
theorem Fil.refl (l : List α) : Fil key l l := fun _ => rfl
theorem Fil.trans {l m n : List α} (a : Fil key l m) (b : Fil key m n) : Fil key l n := fun k => (a k).trans (b k)
theorem Fil.symm {l m : List α} (a : Fil key l m) : Fil key m l := fun k => (a k).symm
theorem Fil.app {l m l' m' : List α} (a : Fil key l l') (b : Fil key m m') : Fil key (l ++ m) (l' ++ m') := fun k => by rw [List.filter_append, List.filter_append, a k, b k]
theorem Fil.cons {l l' : List α} (x : α) (a : Fil key l l') : Fil key (x :: l) (x :: l') := (Fil.refl [x]).app a
/-- What stands ahead of greater ones may go behind them. -/
theorem Fil.swap {l m : List α} (h : ∀ x ∈ l, ∀ y ∈ m, key y < key x) : Fil key (l ++ m) (m ++ l) := fun k => by
  rw [List.filter_append, List.filter_append]
  by_cases h1 : ∃ x ∈ l, key x = k
  · obtain ⟨x, hx, e⟩ := h1
    have : m.filter (fun x => decide (key x = k)) = [] := List.filter_eq_nil_iff.2 fun y hy => by have := h x hx y hy; simp; omega
    rw [this]; simp
  · have : l.filter (fun x => decide (key x = k)) = [] := List.filter_eq_nil_iff.2 fun y hy => by
      simp only [decide_eq_true_eq]; exact fun e => h1 ⟨y, hy, e⟩
    rw [this]; simp
theorem Fil.mem {l m : List α} (a : Fil key l m) {x : α} : x ∈ l ↔ x ∈ m := by
  have := a (key x)
  constructor
  · intro h
    have : x ∈ m.filter fun y => decide (key y = key x) := by rw [← this]; exact List.mem_filter.2 ⟨h, by simp⟩
    exact (List.mem_filter.1 this).1
  · intro h
    have : x ∈ l.filter fun y => decide (key y = key x) := by rw [this]; exact List.mem_filter.2 ⟨h, by simp⟩
    exact (List.mem_filter.1 this).1
theorem Fil.nil {l : List α} (a : Fil key [] l) : l = [] := by
  cases l with
  | nil => rfl
  | cons x l => have := (a.mem (x := x)).2 (by simp); cases this
theorem Srt.head {x : α} {l : List α} (s : Srt key (x :: l)) : ∀ y ∈ x :: l, key x ≤ key y := fun y hy => by
  rcases List.mem_cons.1 hy with rfl | hy
  · exact Int.le_refl _
  · exact (List.pairwise_cons.1 s).1 y hy
/-- There is one order. -/
theorem srt_one : ∀ {l m : List α}, Srt key l → Srt key m → Fil key l m → l = m
  | [], m, _, _, f => f.nil.symm
  | x :: l, [], _, _, f => f.symm.nil
  | x :: l, y :: m, a, b, f => by
    have e1 := a.head y (f.mem.2 (by simp))
    have e2 := b.head x (f.mem.1 (by simp))
    have e : key x = key y := by omega
    have hf := f (key x)
    rw [List.filter_cons_of_pos (by simp), List.filter_cons_of_pos (by simp [e])] at hf
    have hxy : x = y := (List.cons.inj hf).1
    subst hxy
    have f2 : Fil key l m := fun k => by
      have := f k
      by_cases hk : key x = k
      · rw [List.filter_cons_of_pos (by simp [hk]), List.filter_cons_of_pos (by simp [hk])] at this
        exact (List.cons.inj this).2
      · rwa [List.filter_cons_of_neg (by simp [hk]), List.filter_cons_of_neg (by simp [hk])] at this
    rw [srt_one (List.pairwise_cons.1 a).2 (List.pairwise_cons.1 b).2 f2]
theorem Fil.perm {l m : List α} [DecidableEq α] (f : Fil key l m) : l.Perm m := by
  rw [List.perm_iff_count]
  intro x
  have h : ∀ l : List α, l.count x = (l.filter fun y => decide (key y = key x)).count x := fun l => by
    rw [List.count_filter (by simp)]
  rw [h l, h m, f]
theorem Srt.app {l m : List α} (a : Srt key l) (b : Srt key m) (h : ∀ x ∈ l, ∀ y ∈ m, key x ≤ key y) : Srt key (l ++ m) := List.pairwise_append.2 ⟨a, b, h⟩
theorem Srt.left {l m : List α} (a : Srt key (l ++ m)) : Srt key l := (List.pairwise_append.1 a).1
theorem Srt.right {l m : List α} (a : Srt key (l ++ m)) : Srt key m := (List.pairwise_append.1 a).2.1
theorem Srt.cross {l m : List α} (a : Srt key (l ++ m)) : ∀ x ∈ l, ∀ y ∈ m, key x ≤ key y := (List.pairwise_append.1 a).2.2
/-- The order, step by step. -/
def ins (key : α → Int) (x : α) : List α → List α
  | [] => [x]
  | y :: l => if key x < key y then x :: y :: l else y :: ins key x l
def srt (key : α → Int) (l : List α) : List α := l.foldl (fun s x => ins key x s) []
theorem ins_fil (x : α) : ∀ l : List α, Srt key l → Fil key (l ++ [x]) (ins key x l)
  | [], _ => Fil.refl _
  | y :: l, s => by
    unfold ins
    split
    · rename_i h
      exact Fil.swap (l := y :: l) (m := [x]) fun z hz w hw => by
        have := s.head z hz; simp at hw; subst hw; omega
    · exact Fil.cons y (ins_fil x l (List.pairwise_cons.1 s).2)
theorem ins_srt (x : α) : ∀ l : List α, Srt key l → Srt key (ins key x l)
  | [], _ => by simp [ins, Srt]
  | y :: l, s => by
    have ih := ins_srt x l (List.pairwise_cons.1 s).2
    have hf := ins_fil x l (List.pairwise_cons.1 s).2
    unfold ins
    split
    · rename_i h
      exact List.pairwise_cons.2 ⟨fun z hz => by have := s.head z hz; omega, s⟩
    · rename_i h
      refine List.pairwise_cons.2 ⟨fun z hz => ?_, ih⟩
      have := hf.mem.2 hz
      rcases List.mem_append.1 this with hz | hz
      · exact s.head z (by simp [hz])
      · simp at hz; subst hz; omega
theorem srt_go : ∀ (l s : List α), Srt key s → Srt key (l.foldl (fun s x => ins key x s) s) ∧ Fil key (s ++ l) (l.foldl (fun s x => ins key x s) s)
  | [], s, h => ⟨h, by simp; exact Fil.refl _⟩
  | x :: l, s, h => by
    obtain ⟨a, b⟩ := srt_go l (ins key x s) (ins_srt x s h)
    refine ⟨a, ?_⟩
    have : Fil key (s ++ x :: l) (ins key x s ++ l) := by
      have e : s ++ x :: l = (s ++ [x]) ++ l := by simp
      rw [e]; exact (ins_fil x s h).app (Fil.refl l)
    exact this.trans b
theorem srt_srt (l : List α) : Srt key (srt key l) := (srt_go l [] List.Pairwise.nil).1
theorem srt_fil (l : List α) : Fil key l (srt key l) := (srt_go l [] List.Pairwise.nil).2
theorem srt_len (l : List α) : (srt key l).length = l.length := by
  have h : ∀ (x : α) (s : List α), (ins key x s).length = s.length + 1 := fun x s => by
    induction s with
    | nil => rfl
    | cons y s ih => unfold ins; split <;> simp [ih]
  have g : ∀ (l s : List α), (l.foldl (fun s x => ins key x s) s).length = s.length + l.length := fun l => by
    induction l with
    | nil => simp
    | cons x l ih => intro s; simp only [List.foldl_cons, ih, h, List.length_cons]; omega
  simpa [srt] using g l []
theorem Fil.length {l m : List α} (f : Fil key l m) : l.length = m.length := by
  have e : srt key l = srt key m := srt_one (srt_srt l) (srt_srt m) ((srt_fil l).symm.trans (f.trans (srt_fil m)))
  rw [← srt_len (key := key) l, e, srt_len]
theorem srt_of {l m : List α} (s : Srt key m) (f : Fil key l m) : m = srt key l := srt_one s (srt_srt l) (f.symm.trans (srt_fil l))
end
theorem Heap.set_self {h : Heap} {b : Nat} {cs : List PV} (e : h.f b = some cs) : h.set b cs = h := by
  apply Heap.ext'; intro x; by_cases e' : x = b
  · subst e'; simp [Heap.set, e]
  · simp [Heap.set, e']
/-- Half of a sum of two places. -/
theorem halfU {a c : Nat} (h : a + c ≤ 4000000) : IntKind.i64.wrap ((IntKind.u64.wrap ((a + c : Nat) : Int)).fdiv (2 ^ min 1 IntKind.u64.bits)) = (((a + c) / 2 : Nat) : Int) := by
  have h1 : IntKind.u64.wrap ((a + c : Nat) : Int) = ((a + c : Nat) : Int) := by
    have : IntKind.u64.wrap ((a + c : Nat) : Int) = ((a + c : Nat) : Int) % 18446744073709551616 := by simp [IntKind.wrap, IntKind.bits, IntKind.signed]
    rw [this]; omega
  have h2 : (2 ^ min 1 IntKind.u64.bits : Int) = 2 := by rfl
  rw [h1, h2, Int.fdiv_eq_ediv_of_nonneg _ (by decide), wrap_in (by omega) (by omega)]
  omega
section
variable {α : Type} [Inhabited α]
theorem get_mid (X : List α) (y : α) (Z : List α) : (X ++ y :: Z).getD X.length default = y := by simp [List.getD]
theorem get_mid1 (X : List α) (y x : α) (Z : List α) : (X ++ y :: x :: Z).getD (X.length + 1) default = x := by simp [List.getD, List.getElem?_append]
theorem set_two (X : List α) (y x u v : α) (Z : List α) : ((X ++ y :: x :: Z).set (X.length + 1) u).set X.length v = X ++ v :: u :: Z := by
  rw [List.set_append_right _ _ (by omega), List.set_append_right _ _ (by omega)]; simp
theorem set_two' (X : List α) (y x u v : α) (Z : List α) : ((X ++ y :: x :: Z).set X.length v).set (X.length + 1) u = X ++ v :: u :: Z := by
  rw [List.set_append_right _ _ (by omega), List.set_append_right _ _ (by omega)]; simp
theorem get_app (X : List α) (Y : List α) {i : Nat} (h : X.length ≤ i) : (X ++ Y).getD i default = Y.getD (i - X.length) default := by
  simp only [List.getD]; rw [List.getElem?_append_right h]
theorem get_left (X : List α) (Y : List α) {i : Nat} (h : i < X.length) : (X ++ Y).getD i default = X.getD i default := by
  simp only [List.getD]; rw [List.getElem?_append_left h]
theorem get_mem (X : List α) {i : Nat} (h : i < X.length) : X.getD i default ∈ X := by simp [List.getD, h]
variable {key : α → Int}
theorem srt_le {B : List α} (s : Srt key B) {p q : Nat} (h : p ≤ q) (hq : q < B.length) : key (B.getD p default) ≤ key (B.getD q default) := by
  by_cases e : p = q
  · subst e; exact Int.le_refl _
  · have := List.pairwise_iff_getElem.1 s p q (by omega) hq (by omega)
    simpa [List.getD, hq, show p < B.length by omega] using this
theorem mem_take_get {B : List α} {n : Nat} {x : α} (h : x ∈ B.take n) : ∃ p, p < n ∧ p < B.length ∧ x = B.getD p default := by
  obtain ⟨p, hp, e⟩ := List.mem_iff_getElem.1 h
  rw [List.length_take] at hp
  exact ⟨p, by omega, by omega, by rw [← e, List.getElem_take]; simp [List.getD, show p < B.length by omega]⟩
theorem mem_drop_get {B : List α} {n : Nat} {x : α} (h : x ∈ B.drop n) : ∃ p, n ≤ p ∧ p < B.length ∧ x = B.getD p default := by
  obtain ⟨p, hp, e⟩ := List.mem_iff_getElem.1 h
  rw [List.length_drop] at hp
  exact ⟨n + p, by omega, by omega, by rw [← e, List.getElem_drop]; simp [List.getD, show n + p < B.length by omega]⟩
end
section
variable {α : Type} [Inhabited α] {key : α → Int}
theorem mergeL (x : α) (B : List α) (t : Nat) (sB : Srt key B) (ht : t ≤ B.length) (h1 : t = 0 ∨ key (B.getD (t - 1) default) < key x) (h2 : t = B.length ∨ ¬ key (B.getD t default) < key x) :
    Srt key (B.take t ++ x :: B.drop t) ∧ Fil key ([x] ++ B) (B.take t ++ x :: B.drop t) := by
  have c1 : ∀ y ∈ B.take t, key y < key x := fun y hy => by
    obtain ⟨p, p1, p2, rfl⟩ := mem_take_get hy
    have := srt_le sB (show p ≤ t - 1 by omega) (by omega)
    rcases h1 with h | h <;> omega
  have c2 : ∀ y ∈ B.drop t, key x ≤ key y := fun y hy => by
    obtain ⟨p, p1, p2, rfl⟩ := mem_drop_get hy
    have := srt_le sB (show t ≤ p by omega) (by omega)
    rcases h2 with h | h <;> omega
  have e : B = B.take t ++ B.drop t := (List.take_append_drop t B).symm
  have sB' := sB
  rw [e] at sB'
  refine ⟨sB'.left.app (List.pairwise_cons.2 ⟨c2, sB'.right⟩) fun y hy z hz => ?_, ?_⟩
  · rcases List.mem_cons.1 hz with rfl | hz
    · have := c1 y hy; omega
    · exact sB'.cross y hy z hz
  · have f : Fil key ([x] ++ B.take t) (B.take t ++ [x]) := Fil.swap fun z hz y hy => by simp at hz; subst hz; exact c1 y hy
    have := f.app (Fil.refl (B.drop t))
    rw [List.append_assoc, List.take_append_drop, List.append_assoc] at this
    exact this
theorem mergeR (y : α) (A : List α) (t : Nat) (sA : Srt key A) (ht : t ≤ A.length) (h1 : t = 0 ∨ ¬ key y < key (A.getD (t - 1) default)) (h2 : t = A.length ∨ key y < key (A.getD t default)) :
    Srt key (A.take t ++ y :: A.drop t) ∧ Fil key (A ++ [y]) (A.take t ++ y :: A.drop t) := by
  have c1 : ∀ z ∈ A.take t, key z ≤ key y := fun z hz => by
    obtain ⟨p, p1, p2, rfl⟩ := mem_take_get hz
    have := srt_le sA (show p ≤ t - 1 by omega) (by omega)
    rcases h1 with h | h <;> omega
  have c2 : ∀ z ∈ A.drop t, key y < key z := fun z hz => by
    obtain ⟨p, p1, p2, rfl⟩ := mem_drop_get hz
    have := srt_le sA (show t ≤ p by omega) (by omega)
    rcases h2 with h | h <;> omega
  have e : A = A.take t ++ A.drop t := (List.take_append_drop t A).symm
  have sA' := sA
  rw [e] at sA'
  refine ⟨sA'.left.app (List.pairwise_cons.2 ⟨fun z hz => by have := c2 z hz; omega, sA'.right⟩) fun z hz w hw => ?_, ?_⟩
  · rcases List.mem_cons.1 hw with rfl | hw
    · exact c1 z hz
    · exact sA'.cross z hz w hw
  · have f : Fil key (A.drop t ++ [y]) ([y] ++ A.drop t) := Fil.swap fun z hz w hw => by simp at hw; subst hw; exact c2 z hz
    have := (Fil.refl (A.take t)).app f
    rw [← List.append_assoc, List.take_append_drop] at this
    exact this
theorem merge2 (A B : List α) (s u : Nat) (sA : Srt key A) (sB : Srt key B) (hs : s ≤ A.length) (hu : u ≤ B.length) (h1 : s = 0 ∨ u = B.length ∨ key (A.getD (s - 1) default) ≤ key (B.getD u default))
    (h2 : s = A.length ∨ u = 0 ∨ key (B.getD (u - 1) default) < key (A.getD s default)) :
    (∀ x ∈ A.take s, ∀ y ∈ B.drop u, key x ≤ key y) ∧ (∀ y ∈ B.take u, ∀ x ∈ A.drop s, key y < key x) := by
  constructor
  · intro x hx y hy
    obtain ⟨p, p1, p2, rfl⟩ := mem_take_get hx
    obtain ⟨q, q1, q2, rfl⟩ := mem_drop_get hy
    have e1 := srt_le sA (show p ≤ s - 1 by omega) (by omega)
    have e2 := srt_le sB q1 q2
    rcases h1 with h | h | h <;> omega
  · intro y hy x hx
    obtain ⟨p, p1, p2, rfl⟩ := mem_take_get hy
    obtain ⟨q, q1, q2, rfl⟩ := mem_drop_get hx
    have e1 := srt_le sB (show p ≤ u - 1 by omega) (by omega)
    have e2 := srt_le sA q1 q2
    rcases h2 with h | h | h <;> omega
theorem merge3 {A1 A2 B1 B2 S1 S2 : List α} (s1 : Srt key S1) (f1 : Fil key (A1 ++ B1) S1) (s2 : Srt key S2) (f2 : Fil key (A2 ++ B2) S2) (sA : Srt key (A1 ++ A2)) (sB : Srt key (B1 ++ B2))
    (c1 : ∀ x ∈ A1, ∀ y ∈ B2, key x ≤ key y) (c2 : ∀ y ∈ B1, ∀ x ∈ A2, key y < key x) : Srt key (S1 ++ S2) ∧ Fil key ((A1 ++ A2) ++ (B1 ++ B2)) (S1 ++ S2) := by
  refine ⟨s1.app s2 fun x hx y hy => ?_, ?_⟩
  · rcases List.mem_append.1 (f1.mem.2 hx) with hx | hx <;> rcases List.mem_append.1 (f2.mem.2 hy) with hy | hy
    · exact sA.cross x hx y hy
    · exact c1 x hx y hy
    · have := c2 x hx y hy; omega
    · exact sB.cross x hx y hy
  · have f0 : Fil key (A2 ++ B1) (B1 ++ A2) := Fil.swap fun x hx y hy => c2 y hy x hx
    have f3 := (((Fil.refl A1).app f0).app (Fil.refl B2))
    have f4 := f1.app f2
    have e1 : A1 ++ A2 ++ (B1 ++ B2) = A1 ++ (A2 ++ B1) ++ B2 := by simp
    have e2 : A1 ++ B1 ++ (A2 ++ B2) = A1 ++ (B1 ++ A2) ++ B2 := by simp
    rw [e1]
    rw [e2] at f4
    exact f3.trans f4
end
/-! ### Blocks -/
section
variable {α : Type} [Inhabited α] {key : α → Int}
def blkL (L : List α) (q w : Nat) : List α := (L.drop (q * w)).take w
def BOk (key : α → Int) (l L : List α) (w q : Nat) : Prop := Fil key (blkL l q w) (blkL L q w) ∧ Srt key (blkL L q w)
theorem blk_left {X Q : List α} {q w : Nat} (h : (q + 1) * w ≤ X.length) : blkL (X ++ Q) q w = blkL X q w := by
  rw [Nat.add_mul] at h
  unfold blkL
  rw [List.drop_append_of_le_length (by omega), List.take_append_of_le_length (by rw [List.length_drop]; omega)]
theorem blk_far {X Y Q : List α} {q w : Nat} (h : X.length = Y.length) (h2 : X.length ≤ q * w) : blkL (X ++ Q) q w = blkL (Y ++ Q) q w := by
  unfold blkL
  rw [List.drop_append, List.drop_append, List.drop_eq_nil_of_le h2, List.drop_eq_nil_of_le (as := Y) (by omega), h]
theorem blk_at {P S Q : List α} {q w : Nat} (h : P.length = q * w) (hS : S.length = w ∨ (S.length ≤ w ∧ Q = [])) : blkL (P ++ S ++ Q) q w = S := by
  unfold blkL
  rw [List.append_assoc, List.drop_left' h]
  rcases hS with hS | ⟨hS, rfl⟩
  · rw [List.take_left' hS]
  · rw [List.append_nil, List.take_of_length_le hS]
theorem blk_two (L : List α) (q w : Nat) : blkL L q (2 * w) = blkL L (2 * q) w ++ blkL L (2 * q + 1) w := by
  unfold blkL
  rw [show 2 * w = w + w by omega, List.take_add, List.drop_drop, show q * (w + w) = 2 * q * w by rw [Nat.mul_add, Nat.mul_assoc, Nat.two_mul], show 2 * q * w + w = (2 * q + 1) * w by rw [Nat.add_mul]; omega]
theorem blk_nil {L : List α} {q w : Nat} (h : L.length ≤ q * w) : blkL L q w = [] := by
  unfold blkL; rw [List.drop_eq_nil_of_le h]; simp
theorem blk_len {L : List α} {q w : Nat} (h : (q + 1) * w ≤ L.length) : (blkL L q w).length = w := by
  rw [Nat.add_mul] at h
  unfold blkL; rw [List.length_take, List.length_drop]; omega
theorem blk_one {L : List α} {q w : Nat} (h : L.length ≤ (q + 1) * w) : blkL L q w = L.drop (q * w) := by
  rw [Nat.add_mul] at h
  unfold blkL; rw [List.take_of_length_le]; rw [List.length_drop]; omega
theorem BOk.nil {l L : List α} {q w : Nat} (h : l.length = L.length) (h2 : L.length ≤ q * w) : BOk key l L w q := by
  unfold BOk; rw [blk_nil h2, blk_nil (h ▸ h2)]; exact ⟨Fil.refl _, List.Pairwise.nil⟩
/-- A block that is put in order by itself. -/
theorem BOk.sort {l P A S Q : List α} {q w : Nat} (h : P.length = q * w) (hA : A.length = w ∨ (A.length ≤ w ∧ Q = [])) (e : blkL l q w = A) (s : Srt key S) (f : Fil key A S) : BOk key l (P ++ S ++ Q) w q := by
  have hl := f.length
  have : blkL (P ++ S ++ Q) q w = S := blk_at h (by rcases hA with h | h; exact .inl (by omega); exact .inr ⟨by omega, h.2⟩)
  unfold BOk; rw [this, e]; exact ⟨f, s⟩
/-- Two blocks that become one. -/
theorem BOk.merge {l L P S Q : List α} {q w : Nat} (h : P.length = q * (2 * w)) (a : BOk key l L w (2 * q)) (b : BOk key l L w (2 * q + 1)) (hS : S.length = 2 * w ∨ (S.length ≤ 2 * w ∧ Q = [])) (s : Srt key S) (f : Fil key (blkL L (2 * q) w ++ blkL L (2 * q + 1) w) S) : BOk key l (P ++ S ++ Q) (2 * w) q := by
  unfold BOk
  rw [blk_at h hS, blk_two]
  exact ⟨(a.1.app b.1).trans f, s⟩
theorem BOk.left {l X Q R : List α} {q w : Nat} (h : (q + 1) * w ≤ X.length) (e : BOk key l (X ++ Q) w q) : BOk key l (X ++ R) w q := by
  unfold BOk at *; rw [blk_left h] at *; exact e
theorem BOk.far {l X Y Q : List α} {q w : Nat} (h : X.length = Y.length) (h2 : X.length ≤ q * w) (e : BOk key l (X ++ Q) w q) : BOk key l (Y ++ Q) w q := by
  unfold BOk at *; rw [← blk_far h h2]; exact e
end
theorem split3 {α : Type} (L : List α) (a w : Nat) (h : a + w ≤ L.length) : ∃ P A Q, L = P ++ A ++ Q ∧ P.length = a ∧ A.length = w :=
  ⟨L.take a, (L.drop a).take w, L.drop (a + w), by rw [List.append_assoc, ← List.drop_drop, List.take_append_drop, List.take_append_drop], by rw [List.length_take]; omega, by rw [List.length_take, List.length_drop]; omega⟩
theorem split2 {α : Type} (L : List α) (a : Nat) (h : a ≤ L.length) : ∃ P A, L = P ++ A ∧ P.length = a := ⟨L.take a, L.drop a, (List.take_append_drop _ _).symm, by rw [List.length_take]; omega⟩
end Go.Pm
