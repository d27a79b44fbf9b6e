/-
  Paragraphs' directions: the package para (what begins an isolate, what goes together, the first strong one, the level).
  Conditions: none but those that each sentence tells.
-/
import Derived.Test.YtcgaphmndnmfdaaGreatIntsIdx
import Derived.Test.YtcgaphmndnmfdaaGreatIntsRep
import Derived.Test.YtcgaphmndnmfdaaGreatIntsEq
namespace Go.Proofs.YtcgaphmndnmfdaaGreat
open Go.Pm
open Nat renaming reduceEqDiff → nE, reduceAdd → nA, reduceMul → nM, reduceLeDiff → nD, reduceLT → nL
open Int renaming reduceLE → iL, reduceLT → iT, reduceEq → iE, reduceToNat → iN, cast_ofNat_Int → iC
set_option maxRecDepth 100000
set_option linter.unusedSimpArgs false
set_option linter.unusedVariables false

def opensL : List Int := [19, 20, 21]
def opensT (c : Int) : Bool := opensL.contains c
/-- What is known ahead of a place: what goes together, and what is open. -/
def mSt (C : List Int) : Nat → List Int × List Int
  | 0 => (List.replicate C.length (-1), [])
  | i + 1 => if opensT (C.getD i default) then ((mSt C i).1.set i C.length, (mSt C i).2 ++ [(i : Int)])
    else if C.getD i default = 22 ∧ (mSt C i).2 ≠ [] then (((mSt C i).1.set ((mSt C i).2.getD ((mSt C i).2.length - 1) default).toNat i).set i ((mSt C i).2.getD ((mSt C i).2.length - 1) default), (mSt C i).2.take ((mSt C i).2.length - 1))
    else mSt C i
theorem mSt_len (C : List Int) : ∀ i, (mSt C i).1.length = C.length ∧ (mSt C i).2.length ≤ i ∧ ∀ x ∈ (mSt C i).2, 0 ≤ x ∧ x < i
  | 0 => by simp [mSt]
  | i + 1 => by
    obtain ⟨h1, h2, h3⟩ := mSt_len C i
    unfold mSt
    split
    · refine ⟨by simp [h1], by simp; omega, fun x hx => ?_⟩
      rcases List.mem_append.1 hx with hx | hx
      · have := h3 x hx; omega
      · simp at hx; omega
    · split
      · refine ⟨by simp [h1], by simp; omega, fun x hx => ?_⟩
        have := h3 x (List.mem_of_mem_take hx); omega
      · exact ⟨h1, by omega, fun x hx => by have := h3 x hx; omega⟩
def matchT (C : List Int) : List Int := (mSt C C.length).1
end Go.Proofs.YtcgaphmndnmfdaaGreat

/-
  What goes together, plainly: that the stack finds what the document says.
  Conditions: none but those that each sentence tells.
-/
namespace Go.Proofs.YtcgaphmndnmfdaaGreat
open Go.Pm
open Nat renaming reduceEqDiff → nE, reduceAdd → nA, reduceMul → nM, reduceLeDiff → nD, reduceLT → nL
open Int renaming reduceLE → iL, reduceLT → iT, reduceEq → iE, reduceToNat → iN, cast_ofNat_Int → iC
set_option maxRecDepth 100000
set_option linter.unusedSimpArgs false
set_option linter.unusedVariables false

/-- How far on the end of what is open lies. -/
def cl : List Int → Nat → Nat
  | [], _ => 0
  | c :: l, d => if opensT c then cl l (d + 1) + 1 else if c = 22 then (if d = 0 then 0 else cl l (d - 1) + 1) else cl l d + 1
def closesT (C : List Int) (i : Nat) : Nat := i + 1 + cl (C.drop (i + 1)) 0
theorem cl_le : ∀ (l : List Int) (d : Nat), cl l d ≤ l.length
  | [], _ => by simp [cl]
  | c :: l, d => by
    have h1 := cl_le l (d + 1); have h2 := cl_le l (d - 1); have h3 := cl_le l d
    unfold cl; simp only [List.length_cons]
    repeat' split
    all_goals omega
theorem cl_at : ∀ (l : List Int) (d : Nat), cl l d < l.length → l[cl l d]? = some 22
  | [], _, h => by simp [cl] at h
  | c :: l, d, h => by
    have h1 := cl_at l (d + 1); have h2 := cl_at l (d - 1); have h3 := cl_at l d
    unfold cl at h ⊢; simp only [List.length_cons] at h
    by_cases q1 : opensT c
    · rw [if_pos q1] at h ⊢; rw [List.getElem?_cons_succ]; exact h1 (by omega)
    · rw [if_neg q1] at h ⊢
      by_cases q2 : c = 22
      · rw [if_pos q2] at h ⊢
        by_cases q3 : d = 0
        · rw [if_pos q3]; rw [q2]; rfl
        · rw [if_neg q3] at h ⊢; rw [List.getElem?_cons_succ]; exact h2 (by omega)
      · rw [if_neg q2] at h ⊢; rw [List.getElem?_cons_succ]; exact h3 (by omega)
theorem closes_le (C : List Int) {i : Nat} (h : i < C.length) : closesT C i ≤ C.length := by
  have := cl_le (C.drop (i + 1)) 0
  rw [List.length_drop] at this; unfold closesT; omega
theorem closes_at (C : List Int) {i : Nat} (h : closesT C i < C.length) : C.getD (closesT C i) default = 22 := by
  have h2 : cl (C.drop (i + 1)) 0 < (C.drop (i + 1)).length := by rw [List.length_drop]; unfold closesT at h; omega
  have := cl_at _ _ h2
  rw [List.getElem?_drop] at this
  unfold closesT List.getD
  rw [this]; rfl
/-- How deep it is behind a part; none: it has ended. -/
def dep : List Int → Nat → Option Nat
  | [], d => some d
  | c :: l, d => if opensT c then dep l (d + 1) else if c = 22 then (if d = 0 then none else dep l (d - 1)) else dep l d
def dst (c : Int) (d : Nat) : Option Nat := if opensT c then some (d + 1) else if c = 22 then (if d = 0 then none else some (d - 1)) else some d
theorem dep_snoc (x : Int) : ∀ (l : List Int) (d : Nat), dep (l ++ [x]) d = (dep l d).bind (dst x)
  | [], d => by simp only [List.nil_append, dep, dst, Option.bind_some]
  | c :: l, d => by
    have h1 := dep_snoc x l
    simp only [List.cons_append, dep]
    repeat' split
    all_goals first | exact h1 _ | rfl
theorem cl_app : ∀ (l m : List Int) (d e : Nat), dep l d = some e → cl (l ++ m) d = l.length + cl m e
  | [], m, d, e, h => by simp [dep] at h; subst h; simp
  | c :: l, m, d, e, h => by
    have h1 := cl_app l m
    simp only [List.cons_append, dep, cl, List.length_cons] at h ⊢
    by_cases q1 : opensT c
    · rw [if_pos q1] at h ⊢; rw [h1 _ _ h]; omega
    · rw [if_neg q1] at h ⊢
      by_cases q2 : c = 22
      · rw [if_pos q2] at h ⊢
        by_cases q3 : d = 0
        · rw [if_pos q3] at h; cases h
        · rw [if_neg q3] at h ⊢; rw [h1 _ _ h]; omega
      · rw [if_neg q2] at h ⊢; rw [h1 _ _ h]; omega
def seg (C : List Int) (a b : Nat) : List Int := (C.take b).drop a
theorem seg_succ (C : List Int) {a t : Nat} (h1 : a ≤ t) (h2 : t < C.length) : seg C a (t + 1) = seg C a t ++ [C.getD t default] := by
  unfold seg
  rw [List.take_succ_eq_append_getElem h2, List.drop_append_of_le_length (by simp; omega)]
  simp [List.getD, h2]
theorem seg_rest (C : List Int) {a t : Nat} (h1 : a ≤ t) (h2 : t ≤ C.length) : C.drop a = seg C a t ++ C.drop t := by
  unfold seg
  conv => lhs; rw [← List.take_append_drop t C]
  rw [List.drop_append_of_le_length (by simp; omega)]
theorem seg_len (C : List Int) {a t : Nat} (h2 : t ≤ C.length) : (seg C a t).length = t - a := by unfold seg; simp; omega
/-- What the stack knows. -/
structure Inv (C : List Int) (t : Nat) (O S : List Int) : Prop where
  ol : O.length = C.length
  st : ∀ p, p < S.length → ∃ i : Nat, S.getD p default = i ∧ i < t ∧ opensT (C.getD i default) = true ∧ dep (seg C (i + 1) t) 0 = some (S.length - 1 - p) ∧ O.getD i default = C.length
  op : ∀ i, i < t → opensT (C.getD i default) = true → (∃ p, p < S.length ∧ S.getD p default = i) ∨ (dep (seg C (i + 1) t) 0 = none ∧ closesT C i < t ∧ O.getD i default = closesT C i ∧ O.getD (closesT C i) default = i)
  no : ∀ p, p < C.length → O.getD p default = -1 ∨ opensT (C.getD p default) = true ∨ ∃ i, i < C.length ∧ opensT (C.getD i default) = true ∧ closesT C i = p
theorem getD_set (l : List Int) (i j : Nat) (x : Int) : (l.set i x).getD j default = if i = j ∧ i < l.length then x else l.getD j default := by
  simp only [List.getD, List.getElem?_set]
  by_cases h : i = j
  · subst h
    by_cases h2 : i < l.length
    · simp [h2]
    · simp [h2]
  · simp [h]
theorem inv_all (C : List Int) : ∀ t, t ≤ C.length → Inv C t (mSt C t).1 (mSt C t).2
  | 0, _ => ⟨by simp [mSt], fun p h => by simp [mSt] at h, fun i h => by omega, fun p h => .inl (by simp [mSt, List.getD, h])⟩
  | t + 1, ht => by
    have ih := inv_all C t (by omega)
    have hlt : t < C.length := by omega
    have sm := (mSt_len C t).2.2
    unfold mSt
    generalize mSt C t = M at *
    obtain ⟨O, S⟩ := M
    simp only at ih sm ⊢
    obtain ⟨ol, st, op, no⟩ := ih
    have ss : ∀ i, i < t → dep (seg C (i + 1) (t + 1)) 0 = (dep (seg C (i + 1) t) 0).bind (dst (C.getD t default)) := fun i hi => by rw [seg_succ C (by omega) hlt, dep_snoc]
    have e22 : opensT 22 = false := by decide
    by_cases q1 : opensT (C.getD t default)
    · rw [if_pos q1]
      refine ⟨by simp [ol], fun p hp => ?_, fun i hi ho => ?_, fun p hp => ?_⟩
      · simp only [List.length_append, List.length_cons, List.length_nil] at hp ⊢
        by_cases hp2 : p < S.length
        · obtain ⟨i, s1, s2, s3, s4, s5⟩ := st p hp2
          refine ⟨i, ?_, by omega, s3, ?_, ?_⟩
          · rw [← s1]; simp only [List.getD]; rw [List.getElem?_append_left hp2]
          · rw [ss i s2, s4, Option.bind_some, dst, if_pos q1]; congr 1; omega
          · rw [getD_set, if_neg (by omega)]; exact s5
        · have : p = S.length := by omega
          subst this
          refine ⟨t, by simp [List.getD], by omega, q1, ?_, ?_⟩
          · have : seg C (t + 1) (t + 1) = [] := by unfold seg; rw [List.drop_eq_nil_of_le (by simp; omega)]
            rw [this, dep]; congr 1; omega
          · rw [getD_set, if_pos ⟨rfl, by omega⟩]
      · by_cases h2 : i = t
        · subst h2
          exact .inl ⟨S.length, by simp, by simp [List.getD]⟩
        · have hit : i < t := by omega
          rcases op i hit ho with ⟨p, p1, p2⟩ | ⟨c1, c2, c3, c4⟩
          · exact .inl ⟨p, by simp; omega, by rw [← p2]; simp only [List.getD]; rw [List.getElem?_append_left p1]⟩
          · refine .inr ⟨by rw [ss i hit, c1]; rfl, by omega, ?_, ?_⟩
            · rw [getD_set, if_neg (by omega)]; exact c3
            · rw [getD_set, if_neg (by omega)]; exact c4
      · by_cases h2 : p = t
        · subst h2; exact .inr (.inl q1)
        · rw [getD_set, if_neg (by omega)]; exact no p hp
    · rw [if_neg q1]
      by_cases q2 : C.getD t default = 22
      · by_cases q3 : S = []
        · rw [if_neg (fun h => h.2 q3)]
          subst q3
          refine ⟨ol, fun p hp => by simp at hp, fun i hi ho => ?_, no⟩
          have hit : i < t := by
            by_cases h2 : i = t
            · subst h2; exact absurd ho q1
            · omega
          rcases op i hit ho with ⟨p, p1, p2⟩ | ⟨c1, c2, c3, c4⟩
          · simp at p1
          · exact .inr ⟨by rw [ss i hit, c1]; rfl, by omega, c3, c4⟩
        · rw [if_pos ⟨q2, q3⟩]
          have hpos : 0 < S.length := List.length_pos_iff.2 q3
          obtain ⟨la, l1, l2, l3, l4, l5⟩ := st (S.length - 1) (by omega)
          rw [l1, Int.toNat_natCast]
          have l4 : dep (seg C (la + 1) t) 0 = some 0 := by rw [l4]; congr 1; omega
          have hcl : closesT C la = t := by
            unfold closesT
            rw [seg_rest C (show la + 1 ≤ t by omega) (by omega), cl_app _ _ _ _ l4, seg_len C (by omega), drop_getD C hlt, cl, if_neg q1, if_pos q2, if_pos rfl]
            omega
          have tk : ∀ p, p < S.length - 1 → (S.take (S.length - 1)).getD p default = S.getD p default := fun p hp => by simp only [List.getD]; rw [List.getElem?_take, if_pos hp]
          have tl : (S.take (S.length - 1)).length = S.length - 1 := by simp
          have hO : ∀ p, p < t → p ≠ la → ((O.set la t).set t la).getD p default = O.getD p default := fun p h1 h2 => by
            rw [getD_set, if_neg (by omega), getD_set, if_neg (by omega)]
          refine ⟨by simp [ol], fun p hp => ?_, fun i hi ho => ?_, fun p hp => ?_⟩
          · rw [tl] at hp ⊢
            obtain ⟨i, s1, s2, s3, s4, s5⟩ := st p (by omega)
            refine ⟨i, by rw [tk p hp]; exact s1, by omega, s3, ?_, ?_⟩
            · rw [ss i s2, s4, Option.bind_some, dst, if_neg q1, if_pos q2, if_neg (by omega)]; congr 1; omega
            · rw [hO i s2 (fun e => by rw [e, l4] at s4; simp at s4; omega)]; exact s5
          · have hit : i < t := by
              by_cases h2 : i = t
              · subst h2; exact absurd ho q1
              · omega
            by_cases hla : i = la
            · subst hla
              refine .inr ⟨by rw [ss i hit, l4, Option.bind_some, dst, if_neg q1, if_pos q2, if_pos rfl], by omega, ?_, ?_⟩
              · rw [hcl, getD_set, if_neg (by omega), getD_set, if_pos ⟨rfl, by omega⟩]
              · rw [hcl, getD_set, if_pos ⟨rfl, by simp; omega⟩]
            · rcases op i hit ho with ⟨p, p1, p2⟩ | ⟨c1, c2, c3, c4⟩
              · have hp : p ≠ S.length - 1 := fun e => by rw [e, l1] at p2; omega
                exact .inl ⟨p, by rw [tl]; omega, by rw [tk p (by omega)]; exact p2⟩
              · refine .inr ⟨by rw [ss i hit, c1]; rfl, by omega, by rw [hO i hit hla]; exact c3, ?_⟩
                rw [hO _ c2 (fun e => ?_)]
                · exact c4
                · have := closes_at C (i := i) (by omega)
                  rw [e] at this
                  rw [this, e22] at l3; cases l3
          · by_cases h2 : p = t
            · subst h2; exact .inr (.inr ⟨la, by omega, l3, hcl⟩)
            · by_cases h3 : p = la
              · subst h3; exact .inr (.inl l3)
              · rw [getD_set, if_neg (by omega), getD_set, if_neg (by omega)]; exact no p hp
      · rw [if_neg (fun h => q2 h.1)]
        have hd : ∀ d, dst (C.getD t default) d = some d := fun d => by rw [dst, if_neg q1, if_neg q2]
        refine ⟨ol, fun p hp => ?_, fun i hi ho => ?_, no⟩
        · obtain ⟨i, s1, s2, s3, s4, s5⟩ := st p hp
          exact ⟨i, s1, by omega, s3, by rw [ss i s2, s4, Option.bind_some, hd], s5⟩
        · have hit : i < t := by
            by_cases h2 : i = t
            · subst h2; exact absurd ho q1
            · omega
          rcases op i hit ho with h | ⟨c1, c2, c3, c4⟩
          · exact .inl h
          · exact .inr ⟨by rw [ss i hit, c1]; rfl, by omega, c3, c4⟩
/-- What goes together. -/
theorem match_spec (C : List Int) : (matchT C).length = C.length ∧ (∀ i, i < C.length → opensT (C.getD i default) = true → (matchT C).getD i default = closesT C i ∧ (closesT C i < C.length → (matchT C).getD (closesT C i) default = i)) ∧
    ∀ p, p < C.length → (matchT C).getD p default = -1 ∨ opensT (C.getD p default) = true ∨ ∃ i, i < C.length ∧ opensT (C.getD i default) = true ∧ closesT C i = p := by
  obtain ⟨ol, st, op, no⟩ := inv_all C C.length (Nat.le_refl _)
  refine ⟨ol, fun i hi ho => ?_, no⟩
  rcases op i hi ho with ⟨p, p1, p2⟩ | ⟨c1, c2, c3, c4⟩
  · obtain ⟨j, s1, s2, s3, s4, s5⟩ := st p p1
    have : i = j := by rw [p2] at s1; omega
    subst this
    have hc : closesT C i = C.length := by
      unfold closesT
      rw [seg_rest C (show i + 1 ≤ C.length by omega) (Nat.le_refl _), cl_app _ _ _ _ s4, seg_len C (Nat.le_refl _), List.drop_length]
      simp [cl]; omega
    exact ⟨by rw [hc]; exact s5, fun h => by omega⟩
  · exact ⟨c3, fun _ => c4⟩
theorem ifc {p q : Prop} [Decidable p] [Decidable q] (h : p ↔ q) {α : Type} (a b : α) : (if p then a else b) = (if q then a else b) := by
  by_cases hp : p
  · rw [if_pos hp, if_pos (h.1 hp)]
  · rw [if_neg hp, if_neg (fun hq => hp (h.2 hq))]
/-- The document's answer, step by step. -/
def rSt (C : List Int) : Nat → List Int
  | 0 => List.replicate C.length (-1)
  | j + 1 => if opensT (C.getD j default) then (if closesT C j < C.length then ((rSt C j).set j (closesT C j)).set (closesT C j) j else (rSt C j).set j (closesT C j)) else rSt C j
theorem rSt_len (C : List Int) : ∀ j, (rSt C j).length = C.length
  | 0 => by simp [rSt]
  | j + 1 => by have := rSt_len C j; unfold rSt; repeat' split
                all_goals simp [this]
theorem rSt_spec (C : List Int) : ∀ j, j ≤ C.length → ∀ p, p < C.length → (rSt C j).getD p default = (if (p < j ∧ opensT (C.getD p default) = true) ∨ (∃ i, i < j ∧ opensT (C.getD i default) = true ∧ closesT C i = p) then (matchT C).getD p default else -1)
  | 0, _, p, hp => by rw [if_neg (by rintro (⟨h, _⟩ | ⟨i, h, _⟩) <;> omega)]; simp [rSt, List.getD, hp]
  | j + 1, hj, p, hp => by
    have ih := rSt_spec C j (by omega) p hp
    obtain ⟨m0, m1, m2⟩ := match_spec C
    have hl := rSt_len C j
    have e22 : opensT 22 = false := by decide
    unfold rSt
    by_cases q1 : opensT (C.getD j default)
    · rw [if_pos q1]
      obtain ⟨a1, a2⟩ := m1 j (by omega) q1
      have hjc : j < closesT C j := by unfold closesT; omega
      by_cases q2 : closesT C j < C.length
      · rw [if_pos q2, getD_set, getD_set]
        by_cases h1 : closesT C j = p
        · rw [if_pos ⟨h1, by simp; omega⟩, if_pos (.inr ⟨j, by omega, q1, h1⟩), ← h1, a2 q2]
        · rw [if_neg (fun h => h1 h.1)]
          by_cases h2 : j = p
          · rw [if_pos ⟨h2, by omega⟩, if_pos (.inl ⟨by omega, by rw [← h2]; exact q1⟩), ← h2, a1]
          · rw [if_neg (fun h => h2 h.1), ih]
            refine ifc ?_ _ _
            constructor
            · rintro (⟨h, h'⟩ | ⟨i, h, h', h''⟩)
              · exact .inl ⟨by omega, h'⟩
              · exact .inr ⟨i, by omega, h', h''⟩
            · rintro (⟨h, h'⟩ | ⟨i, h, h', h''⟩)
              · exact .inl ⟨by omega, h'⟩
              · refine .inr ⟨i, ?_, h', h''⟩
                by_cases e : i = j
                · subst e; exact absurd h'' h1
                · omega
      · rw [if_neg q2, getD_set]
        by_cases h2 : j = p
        · rw [if_pos ⟨h2, by omega⟩, if_pos (.inl ⟨by omega, by rw [← h2]; exact q1⟩), ← h2, a1]
        · rw [if_neg (fun h => h2 h.1), ih]
          refine ifc ?_ _ _
          constructor
          · rintro (⟨h, h'⟩ | ⟨i, h, h', h''⟩)
            · exact .inl ⟨by omega, h'⟩
            · exact .inr ⟨i, by omega, h', h''⟩
          · rintro (⟨h, h'⟩ | ⟨i, h, h', h''⟩)
            · exact .inl ⟨by omega, h'⟩
            · refine .inr ⟨i, ?_, h', h''⟩
              by_cases e : i = j
              · subst e; omega
              · omega
    · rw [if_neg q1, ih]
      refine ifc ?_ _ _
      constructor
      · rintro (⟨h, h'⟩ | ⟨i, h, h', h''⟩)
        · exact .inl ⟨by omega, h'⟩
        · exact .inr ⟨i, by omega, h', h''⟩
      · rintro (⟨h, h'⟩ | ⟨i, h, h', h''⟩)
        · refine .inl ⟨?_, h'⟩
          by_cases e : p = j
          · subst e; exact absurd h' q1
          · omega
        · refine .inr ⟨i, ?_, h', h''⟩
          by_cases e : i = j
          · subst e; exact absurd h' q1
          · omega
theorem rSt_match (C : List Int) : rSt C C.length = matchT C := by
  obtain ⟨m0, m1, m2⟩ := match_spec C
  have hl := rSt_len C C.length
  apply List.ext_getElem?
  intro p
  by_cases hp : p < C.length
  · have e := rSt_spec C C.length (Nat.le_refl _) p hp
    have g1 : (rSt C C.length)[p]? = some ((rSt C C.length).getD p default) := by simp [List.getD, show p < (rSt C C.length).length by omega]
    have g2 : (matchT C)[p]? = some ((matchT C).getD p default) := by simp [List.getD, show p < (matchT C).length by omega]
    rw [g1, g2, e]
    congr 1
    split
    · rfl
    · rename_i hn
      rcases m2 p hp with h | h | ⟨i, h1, h2, h3⟩
      · exact h.symm
      · exact absurd (.inl ⟨hp, h⟩) hn
      · exact absurd (.inr ⟨i, h1, h2, h3⟩) hn
  · rw [List.getElem?_eq_none (by omega), List.getElem?_eq_none (by omega)]
/-- It goes both ways. -/
theorem match_back (C : List Int) (i k : Nat) (hi : i < C.length) (hk : k < C.length) (e : (matchT C).getD i default = k) : (matchT C).getD k default = i := by
  obtain ⟨m0, m1, m2⟩ := match_spec C
  rcases m2 i hi with h | h | ⟨j, h1, h2, h3⟩
  · rw [h] at e; omega
  · obtain ⟨a1, a2⟩ := m1 i hi h
    rw [a1] at e
    have : closesT C i = k := by omega
    rw [← this]; exact a2 (by omega)
  · obtain ⟨a1, a2⟩ := m1 j h1 h2
    have := a2 (by omega)
    rw [h3, e] at this
    have hkj : k = j := by omega
    rw [hkj, a1, h3]
end Go.Proofs.YtcgaphmndnmfdaaGreat

/-
  Paragraphs' directions: the first strong one, the level, and the document's answers.
  Conditions: none but those that each sentence tells.
-/
namespace Go.Proofs.YtcgaphmndnmfdaaGreat
open Go.Pm
open Nat renaming reduceEqDiff → nE, reduceAdd → nA, reduceMul → nM, reduceLeDiff → nD, reduceLT → nL
open Int renaming reduceLE → iL, reduceLT → iT, reduceEq → iE, reduceToNat → iN, cast_ofNat_Int → iC
set_option maxRecDepth 100000
set_option linter.unusedSimpArgs false
set_option linter.unusedVariables false

def sideT (c : Int) : Int × Bool := if c = 0 then (0, true) else if c = 1 ∨ c = 2 then (1, true) else (0, false)
def deepT (c : Int) (d : Nat) : Nat := if opensT c then d + 1 else if c = 22 then d - 1 else d
/-- The first strong one. -/
def firP : List Int → Nat → Int
  | [], _ => -1
  | c :: l, d => if (sideT c).2 = true ∧ deepT c d = 0 then (sideT c).1 else firP l (deepT c d)
def lo0 (lo : Int) : Int := if lo < 0 then 0 else lo
def hi0 (n : Nat) (hi : Int) : Int := if (n : Int) < hi then n else hi
def firstT (C : List Int) (lo hi : Int) : Int := firP ((C.take (hi0 C.length hi).toNat).drop (lo0 lo).toNat) 0
def levelT (C : List Int) (dir : Int) : Int :=
  if dir = 1 then 1 else if dir = 2 then (if 0 ≤ firstT C 0 C.length then firstT C 0 C.length else 0) else if dir = 3 then (if 0 ≤ firstT C 0 C.length then firstT C 0 C.length else 1) else 0
theorem opens_eq (c : Int) : opensT c = decide (c = 19 ∨ c = 20 ∨ c = 21) := by
  unfold opensT opensL
  by_cases h1 : c = 19
  · simp [h1]
  · by_cases h2 : c = 20
    · simp [h2]
    · by_cases h3 : c = 21
      · simp [h3]
      · simp [h1, h2, h3]
theorem OpensR (c : Int) (h : Heap) {K : PV → Heap → Prop} (k : K (.bool (opensT c)) h) : CanP Tryz.prog 99 [.int .i64 c] h K := by
  refine e99 rfl ?_
  rw [opens_eq] at k
  try simp only [c99, r99_0, r99_1, pm, pmW, pmB, ft, ↓reduceIte, reduceCtorEq, nE, nA, nM, nD, nL, iL, iT, iE, iN, iC]
  by_cases h1 : c = 19
  · subst h1
    try simp only [pm, pmW, pmB, ft, ↓reduceIte, reduceCtorEq, nE, nA, nM, nD, nL, iL, iT, iE, iN, iC]
    exact finK_le (Heap.le_refl _) k
  · by_cases h2 : c = 20
    · subst h2
      try simp only [pm, pmW, pmB, ft, ↓reduceIte, reduceCtorEq, nE, nA, nM, nD, nL, iL, iT, iE, iN, iC]
      exact finK_le (Heap.le_refl _) k
    · have e : decide (c = 19 ∨ c = 20 ∨ c = 21) = decide (c = 21) := decide_eq_decide.2 ⟨fun q => by omega, fun q => by omega⟩
      rw [e] at k
      try simp only [h1, h2, pm, pmW, pmB, ft, ↓reduceIte, reduceCtorEq, nE, nA, nM, nD, nL, iL, iT, iE, iN, iC]
      exact finK_le (Heap.le_refl _) k
end Go.Proofs.YtcgaphmndnmfdaaGreat
