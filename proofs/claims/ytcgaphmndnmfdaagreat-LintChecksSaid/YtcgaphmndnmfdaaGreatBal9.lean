/-
  A text in which all that begins ends: plain.
-/
import Derived.Test.YtcgaphmndnmfdaaGreatBalB
import Derived.Test.YtcgaphmndnmfdaaGreatPara4
namespace Go.Proofs.YtcgaphmndnmfdaaGreat
open Go.Pm
open Nat renaming reduceEqDiff → nE, reduceAdd → nA, reduceMul → nM, reduceLeDiff → nD, reduceLT → nL
open Int renaming reduceLE → iL, reduceLT → iT, reduceEq → iE, reduceToNat → iN, cast_ofNat_Int → iC
set_option maxRecDepth 100000
set_option linter.unusedSimpArgs false
set_option linter.unusedVariables false

def dropIso : List Bool → List Bool
  | [] => []
  | true :: r => r
  | false :: r => dropIso r
/-- One class more; none: it is loose. -/
def absS (a : List Bool) (c : Int) : Option (List Bool) :=
  if embT c = true then some (false :: a) else if opensT c = true then some (true :: a)
  else if c = 18 then (match a with | false :: r => some r | _ => none)
  else if c = 22 then (if a.any id = true then some (dropIso a) else none)
  else some a
def absW (C : List Int) (w : W3) : List Bool := w.st.reverse.map (isoB C)
theorem popR_drop (C : List Int) : ∀ r : List Int, (popR C r).2.map (isoB C) = dropIso (r.map (isoB C))
  | [] => rfl
  | x :: r => by
    have ih := popR_drop C r
    have e : isoB C x = opensT (atW C x) := rfl
    rw [popR, List.map_cons, e]
    cases opensT (atW C x)
    · simpa [dropIso] using ih
    · simp [dropIso]
theorem any_rev (C : List Int) (st : List Int) : (st.reverse.map (isoB C)).any id = st.any (isoB C) := by
  rw [List.any_map, List.any_reverse]; rfl
theorem step_abs (C : List Int) (n : Nat) (w : W3) (ok : Wok C n w) (i : Nat) :
    (∀ a, absS (absW C w) (C.getD i default) = some a → absW C (stepW C w i (C.getD i default)) = a ∧ (stepW C w i (C.getD i default)).ls = w.ls) ∧
    (absS (absW C w) (C.getD i default) = none → absW C (stepW C w i (C.getD i default)) = absW C w ∧ (stepW C w i (C.getD i default)).ls = w.ls ++ [(i : Int)]) := by
  have hat : isoB C (i : Int) = opensT (C.getD i default) := rfl
  have hdis := fun (h : embT (atW C (i : Int)) = true ∨ opensT (atW C (i : Int)) = true) => emb_iso (C := C) (x := (i : Int)) h
  have hata : atW C (i : Int) = C.getD i default := rfl
  rw [hata, hat] at hdis
  generalize C.getD i default = c at *
  unfold absS stepW
  by_cases h1 : embT c = true
  · have := hdis (.inl h1)
    rw [h1] at this
    have ho : opensT c = false := by cases q : opensT c; rfl; rw [q] at this; cases this
    rw [if_pos h1, if_pos (.inl h1)]
    refine ⟨fun a e => ?_, fun e => by cases e⟩
    cases e
    simp [absW, hat, ho]
  · rw [if_neg h1]
    by_cases h2 : opensT c = true
    · rw [if_pos h2, if_pos (.inr h2)]
      refine ⟨fun a e => ?_, fun e => by cases e⟩
      cases e
      simp [absW, hat, h2]
    · have hN0 : ¬ (embT c = true ∨ opensT c = true) := fun a => a.elim h1 h2
      rw [if_neg h2, if_neg hN0]
      by_cases h3 : c = 18
      · rw [if_pos h3, if_pos h3, endE]
        by_cases e0 : w.st = []
        · rw [if_neg (by simp [e0])]
          simp [absW, e0]
        · obtain ⟨hm, hs⟩ := last_get w.st e0
          have hei := emb_iso (ok.1 _ hm).2.2
          generalize w.st.getD (w.st.length - 1) default = x at *
          have hr : w.st.reverse = x :: w.st.dropLast.reverse := by
            have := congrArg List.reverse hs
            simpa using this
          have ha : absW C w = isoB C x :: w.st.dropLast.reverse.map (isoB C) := by rw [absW, hr]; rfl
          rw [ha, hei]
          cases hb : isoB C x
          · rw [if_pos ⟨e0, rfl⟩]
            refine ⟨fun a e => ?_, fun e => by simp at e⟩
            simp only [Option.some.injEq] at e
            exact ⟨e, rfl⟩
          · rw [if_neg (by simp)]
            refine ⟨fun a e => by simp at e, fun _ => ⟨?_, rfl⟩⟩
            rw [absW, hr]
            simp only [List.map_cons, hb]
      · rw [if_neg h3, if_neg h3]
        by_cases h4 : c = 22
        · rw [if_pos h4, if_pos h4, endI, absW, any_rev]
          cases q : w.st.any (isoB C)
          · simp [absW]
          · refine ⟨fun a e => ?_, fun e => by simp at e⟩
            simp only [if_true, Option.some.injEq] at e
            rw [← e, if_pos rfl]
            refine ⟨?_, rfl⟩
            simp only [absW, List.reverse_reverse]
            exact popR_drop C _
        · rw [if_neg h4, if_neg h4]
          refine ⟨fun a e => ?_, fun e => by cases e⟩
          cases e
          exact ⟨rfl, rfl⟩
/-! ### Texts -/
/-- A text, gone through with nothing loose: what is open then. -/
def rn (a : List Bool) : List Int → Option (List Bool)
  | [] => some a
  | x :: l => (absS a (classT x)).bind fun b => rn b l
theorem rn_app (l m : List Int) : ∀ a, rn a (l ++ m) = (rn a l).bind fun b => rn b m := by
  induction l with
  | nil => intro a; rfl
  | cons x l ih =>
    intro a
    rw [List.cons_append, rn, rn]
    cases absS a (classT x) with
    | none => rfl
    | some b => simp only [Option.bind_some]; exact ih b
def cls (X : List Int) : List Int := X.map classT
theorem cls_len (X : List Int) : (cls X).length = X.length := by simp [cls]
theorem cls_get (X : List Int) {i : Nat} (h : i < X.length) : (cls X).getD i default = classT (X.getD i default) := by simp [cls, List.getD, h]
/-- What stays of the first codes. -/
def kpN (X : List Int) : Nat → List Int
  | 0 => []
  | i + 1 => if absS (absW (cls X) (wk (cls X) i)) (classT (X.getD i default)) = none then kpN X i else kpN X i ++ [X.getD i default]
theorem wk_abs (X : List Int) {i : Nat} (h : i < X.length) :
    (∀ a, absS (absW (cls X) (wk (cls X) i)) (classT (X.getD i default)) = some a → absW (cls X) (wk (cls X) (i + 1)) = a ∧ (wk (cls X) (i + 1)).ls = (wk (cls X) i).ls) ∧
    (absS (absW (cls X) (wk (cls X) i)) (classT (X.getD i default)) = none → absW (cls X) (wk (cls X) (i + 1)) = absW (cls X) (wk (cls X) i) ∧ (wk (cls X) (i + 1)).ls = (wk (cls X) i).ls ++ [(i : Int)]) := by
  have := step_abs (cls X) i (wk (cls X) i) (wk_ok (cls X) i (by rw [cls_len]; omega)) i
  rw [cls_get X h] at this
  have e : wk (cls X) (i + 1) = stepW (cls X) (wk (cls X) i) i (classT (X.getD i default)) := by rw [wk, cls_get X h]
  rw [e]
  exact this
theorem kp_rn (X : List Int) : ∀ i, i ≤ X.length → rn [] (kpN X i) = some (absW (cls X) (wk (cls X) i))
  | 0, _ => rfl
  | i + 1, hi => by
    have ih := kp_rn X i (by omega)
    obtain ⟨h1, h2⟩ := wk_abs X (i := i) (by omega)
    rw [kpN]
    cases q : absS (absW (cls X) (wk (cls X) i)) (classT (X.getD i default)) with
    | none => rw [if_pos rfl, ih, (h2 q).1]
    | some a =>
      rw [if_neg (by simp), rn_app, ih, Option.bind_some, rn, q, (h1 a q).1]; rfl
theorem loose_mem (X : List Int) : ∀ i, i ≤ X.length → ∀ x : Int, x ∈ (wk (cls X) i).ls ↔ ∃ k : Nat, k < i ∧ x = k ∧ absS (absW (cls X) (wk (cls X) k)) (classT (X.getD k default)) = none
  | 0, _, x => by simp [wk]
  | i + 1, hi, x => by
    have ih := loose_mem X i (by omega) x
    obtain ⟨h1, h2⟩ := wk_abs X (i := i) (by omega)
    cases q : absS (absW (cls X) (wk (cls X) i)) (classT (X.getD i default)) with
    | none =>
      rw [(h2 q).2, List.mem_append, ih, List.mem_singleton]
      constructor
      · rintro (⟨k, a, b, c⟩ | e)
        · exact ⟨k, by omega, b, c⟩
        · exact ⟨i, by omega, e, q⟩
      · rintro ⟨k, a, b, c⟩
        by_cases e : k = i
        · exact .inr (by rw [b, e])
        · exact .inl ⟨k, by omega, b, c⟩
    | some a =>
      rw [(h1 a q).2, ih]
      constructor
      · rintro ⟨k, a, b, c⟩; exact ⟨k, by omega, b, c⟩
      · rintro ⟨k, a, b, c⟩
        by_cases e : k = i
        · rw [e, q] at c; cases c
        · exact ⟨k, by omega, b, c⟩
/-- What is not loose of so many codes from a place on. -/
def sty (X L : List Int) (lo : Nat) : Nat → List Int
  | 0 => []
  | n + 1 => if ((lo + n : Nat) : Int) ∈ L then sty X L lo n else sty X L lo n ++ [X.getD (lo + n) default]
theorem sty_kp (X : List Int) : ∀ n, n ≤ X.length → sty X (wkT (cls X)).ls 0 n = kpN X n
  | 0, _ => rfl
  | n + 1, hn => by
    have ih := sty_kp X n (by omega)
    have hm := loose_mem X X.length (Nat.le_refl _) ((n : Nat) : Int)
    have hw : wkT (cls X) = wk (cls X) X.length := by rw [wkT, cls_len]
    rw [sty, kpN, ih, Nat.zero_add, hw]
    by_cases q : absS (absW (cls X) (wk (cls X) n)) (classT (X.getD n default)) = none
    · rw [if_pos q, if_pos (hm.2 ⟨n, by omega, rfl, q⟩)]
    · rw [if_neg q, if_neg]
      intro e
      obtain ⟨k, a, b, c⟩ := hm.1 e
      have : k = n := by omega
      rw [this] at c
      exact q c
theorem sty_all (X L : List Int) (lo : Nat) : ∀ n, lo + n ≤ X.length → (∀ k, k < n → ¬ ((lo + k : Nat) : Int) ∈ L) → sty X L lo n = (X.drop lo).take n
  | 0, _, _ => by simp [sty]
  | n + 1, hn, h => by
    rw [sty, if_neg (h n (by omega)), sty_all X L lo n (by omega) fun k hk => h k (by omega)]
    rw [List.take_add_one, List.getElem?_drop, List.getD, List.getElem?_eq_getElem (by omega)]; rfl
theorem sty_len (X L : List Int) (lo : Nat) : ∀ n, (sty X L lo n).length ≤ n
  | 0 => Nat.le_refl _
  | n + 1 => by
    have := sty_len X L lo n
    rw [sty]; split
    · omega
    · simp; omega
def bodyT (X : List Int) : Nat :=
  if X.length = 0 ∨ classT (X.getD (X.length - 1) default) ≠ 10 then X.length
  else if 1 < X.length ∧ X.getD (X.length - 2) default = 13 ∧ X.getD (X.length - 1) default = 10 then X.length - 2 else X.length - 1
theorem body_le (X : List Int) : bodyT X ≤ X.length := by
  unfold bodyT
  split
  · omega
  · split <;> omega
def evenT (X : List Int) : List Int := sty X (wkT (cls X)).ls 0 (bodyT X) ++ endsT (cls X) ++ sty X (wkT (cls X)).ls (bodyT X) (X.length - bodyT X)
theorem even_same {X : List Int} (h1 : (wkT (cls X)).st = []) (h2 : (wkT (cls X)).ls = []) : evenT X = X := by
  have hb := body_le X
  rw [evenT, h2, endsT, h1, sty_all X [] 0 _ (by omega) (fun _ _ e => by cases e), sty_all X [] (bodyT X) _ (by omega) (fun _ _ e => by cases e)]
  simp only [List.reverse_nil, List.map_nil, List.append_nil, List.drop_zero]
  rw [List.take_of_length_le (l := X.drop (bodyT X)) (by simp), List.take_append_drop]
/-- Nothing is loose, nothing is open at the end. -/
theorem rn_walk (X : List Int) : ∀ i, i ≤ X.length → (∀ a, rn [] (X.take i) = some a → absW (cls X) (wk (cls X) i) = a ∧ (wk (cls X) i).ls = [])
  | 0, _, a, e => by cases e; exact ⟨rfl, rfl⟩
  | i + 1, hi, a, e => by
    have ht : X.take (i + 1) = X.take i ++ [X.getD i default] := by
      have := take_succ_map (fun x : Int => x) X (i := i) (by omega)
      simpa using this
    rw [ht, rn_app] at e
    cases q : rn [] (X.take i) with
    | none => rw [q] at e; cases e
    | some b =>
      obtain ⟨i1, i2⟩ := rn_walk X i (by omega) b q
      rw [q, Option.bind_some, rn] at e
      cases r : absS b (classT (X.getD i default)) with
      | none => rw [r] at e; cases e
      | some d =>
        rw [r, Option.bind_some, rn] at e
        cases e
        obtain ⟨h1, -⟩ := wk_abs X (i := i) (by omega)
        rw [i1] at h1
        obtain ⟨j1, j2⟩ := h1 _ r
        exact ⟨j1, by rw [j2, i2]⟩
theorem good_walk {X : List Int} (h : rn [] X = some []) : (wkT (cls X)).st = [] ∧ (wkT (cls X)).ls = [] := by
  have := rn_walk X X.length (Nat.le_refl _) [] (by rw [List.take_length]; exact h)
  rw [wkT, cls_len]
  refine ⟨?_, this.2⟩
  have := this.1
  rw [absW, List.map_eq_nil_iff, List.reverse_eq_nil_iff] at this
  exact this
end Go.Proofs.YtcgaphmndnmfdaaGreat
