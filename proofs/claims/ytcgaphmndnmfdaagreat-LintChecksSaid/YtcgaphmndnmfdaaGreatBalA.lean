/-
  What begins and what ends in a paragraph: the walk (package balance).
  Conditions: none but those that each sentence tells.
-/
import Derived.Test.YtcgaphmndnmfdaaGreatIntsIdx
import Derived.Test.YtcgaphmndnmfdaaGreatPmW
import Derived.Test.YtcgaphmndnmfdaaGreatParaA
namespace Go.Proofs.YtcgaphmndnmfdaaGreat
open Go.Pm
open Nat renaming reduceEqDiff → nE, reduceAdd → nA, reduceMul → nM, reduceLeDiff → nD, reduceLT → nL
open Int renaming reduceLE → iL, reduceLT → iT, reduceEq → iE, reduceToNat → iN, cast_ofNat_Int → iC
set_option maxRecDepth 100000
set_option linter.unusedSimpArgs false
set_option linter.unusedVariables false

def embL : List Int := [14, 15, 16, 17]
def embT (c : Int) : Bool := embL.contains c
theorem embeds (c : Int) (h : Heap) {K : PV → Heap → Prop} (k : K (.bool (embT c)) h) : CanP Tryz.prog 120 [.int .i64 c] h K := by
  refine e120 rfl ?_
  try simp only [c120, r120_0, r120_1, pm, pmW, pmB, ft, ↓reduceIte, reduceCtorEq, nE, nA, nM, nD, nL, iL, iT, iE, iN, iC]
  refine ContainsI _ embL (by decide) c _ ?_
  try simp only [pm, pmW, pmB, ft, ↓reduceIte, reduceCtorEq, nE, nA, nM, nD, nL, iL, iT, iE, iN, iC]
  exact finK_le (Heap.le_refl _) k
theorem isolates (c : Int) (h : Heap) {K : PV → Heap → Prop} (k : K (.bool (opensT c)) h) : CanP Tryz.prog 121 [.int .i64 c] h K := by
  refine e121 rfl ?_
  try simp only [c121, r121_0, r121_1, pm, pmW, pmB, ft, ↓reduceIte, reduceCtorEq, nE, nA, nM, nD, nL, iL, iT, iE, iN, iC]
  refine ContainsI _ opensL (by decide) c _ ?_
  try simp only [pm, pmW, pmB, ft, ↓reduceIte, reduceCtorEq, nE, nA, nM, nD, nL, iL, iT, iE, iN, iC]
  exact finK_le (Heap.le_refl _) k
/-! ### The walk, plain -/
def atW (C : List Int) (x : Int) : Int := C.getD x.toNat default
/-- What a PDI takes off (the last one first), and what is left, the last one first. -/
def popR (C : List Int) : List Int → List Int × List Int
  | [] => ([], [])
  | x :: r => if opensT (atW C x) then ([], r) else (x :: (popR C r).1, (popR C r).2)
def isoB (C : List Int) (x : Int) : Bool := opensT (atW C x)
structure W3 where
  st : List Int
  lo : List Int
  ls : List Int
def endE (C : List Int) (w : W3) (i : Int) : W3 := if w.st ≠ [] ∧ embT (atW C (w.st.getD (w.st.length - 1) default)) = true then ⟨w.st.dropLast, w.lo, w.ls⟩ else ⟨w.st, w.lo, w.ls ++ [i]⟩
def endI (C : List Int) (w : W3) (i : Int) : W3 := if w.st.any (isoB C) = true then ⟨(popR C w.st.reverse).2.reverse, w.lo ++ (popR C w.st.reverse).1, w.ls⟩ else ⟨w.st, w.lo, w.ls ++ [i]⟩
def stepW (C : List Int) (w : W3) (i : Int) (c : Int) : W3 :=
  if embT c = true ∨ opensT c = true then ⟨w.st ++ [i], w.lo, w.ls⟩ else if c = 18 then endE C w i else if c = 22 then endI C w i else w
def wk (C : List Int) : Nat → W3
  | 0 => ⟨[], [], []⟩
  | i + 1 => stepW C (wk C i) i (C.getD i default)
/-! ### The walk's box -/
theorem stk_oldv {h h' : Heap} {v : PV} {E n : Nat} {cs : List PV} (a : Stk h h' v E n cs) : v.old = v ∧ Pm.flat v = some [v] := by
  rcases a with ⟨rfl, _⟩ | ⟨b, ds, rfl, _⟩ <;> exact ⟨rfl, rfl⟩
def WV (h0 h : Heap) (wb : Nat) (vs vl vo : PV) (C : List Int) (w : W3) : Prop :=
  h0.f wb = none ∧ h.f wb = some [.list false 1 C.length (C.map (.int .i64)), vs, vl, vo] ∧ Stk h0 h vs 1 w.st.length (w.st.map (.int .i64)) ∧ Stk h0 h vl 1 w.lo.length (w.lo.map (.int .i64)) ∧ Stk h0 h vo 1 w.ls.length (w.ls.map (.int .i64)) ∧
    (blkOf vs ≠ some wb ∧ blkOf vl ≠ some wb ∧ blkOf vo ≠ some wb) ∧ (∀ b, blkOf vs = some b → blkOf vl ≠ some b ∧ blkOf vo ≠ some b) ∧ (∀ b, blkOf vl = some b → blkOf vo ≠ some b)
def WS (h0 h : Heap) (wb : Nat) (C : List Int) (w : W3) : Prop := ∃ vs vl vo, WV h0 h wb vs vl vo C w
theorem WV.newS {h0 h h4 : Heap} {wb : Nat} {vs vl vo v' : PV} {C st : List Int} {w : W3} (W : WV h0 h wb vs vl vo C w) (a : Stk h0 h4 v' 1 st.length (st.map (.int .i64))) (s : Beside h vs h4 v') :
    h4.f wb = some [.list false 1 C.length (C.map (.int .i64)), vs, vl, vo] ∧ WS h0 (h4.set wb [.list false 1 C.length (C.map (.int .i64)), v', vl, vo]) wb C ⟨st, w.lo, w.ls⟩ := by
  obtain ⟨w1, w2, w3, w4, w5, ⟨d1, d2, d3⟩, d4, d5⟩ := W
  obtain ⟨b1, b2⟩ := s _ _ w2 d1
  have l := w4.beside s fun b e f => (d4 b f).1 e
  have o := w5.beside s fun b e f => (d4 b f).2 e
  exact ⟨b1, v', vl, vo, w1, Heap.set_same _ _ _, a.set b2, l.1.set d2, o.1.set d3, ⟨b2, d2, d3⟩, fun b e => ⟨fun f => l.2 b f e, fun f => o.2 b f e⟩, d5⟩
theorem WV.newL {h0 h h4 : Heap} {wb : Nat} {vs vl vo v' : PV} {C lo : List Int} {w : W3} (W : WV h0 h wb vs vl vo C w) (a : Stk h0 h4 v' 1 lo.length (lo.map (.int .i64))) (s : Beside h vl h4 v') :
    h4.f wb = some [.list false 1 C.length (C.map (.int .i64)), vs, vl, vo] ∧ WS h0 (h4.set wb [.list false 1 C.length (C.map (.int .i64)), vs, v', vo]) wb C ⟨w.st, lo, w.ls⟩ := by
  obtain ⟨w1, w2, w3, w4, w5, ⟨d1, d2, d3⟩, d4, d5⟩ := W
  obtain ⟨b1, b2⟩ := s _ _ w2 d2
  have l := w3.beside s fun b e => (d4 b e).1
  have o := w5.beside s fun b e f => d5 b f e
  exact ⟨b1, vs, v', vo, w1, Heap.set_same _ _ _, l.1.set d1, a.set b2, o.1.set d3, ⟨d1, b2, d3⟩, fun b e => ⟨l.2 b e, (d4 b e).2⟩, fun b e f => o.2 b f e⟩
theorem WV.newO {h0 h h4 : Heap} {wb : Nat} {vs vl vo v' : PV} {C ls : List Int} {w : W3} (W : WV h0 h wb vs vl vo C w) (a : Stk h0 h4 v' 1 ls.length (ls.map (.int .i64))) (s : Beside h vo h4 v') :
    h4.f wb = some [.list false 1 C.length (C.map (.int .i64)), vs, vl, vo] ∧ WS h0 (h4.set wb [.list false 1 C.length (C.map (.int .i64)), vs, vl, v']) wb C ⟨w.st, w.lo, ls⟩ := by
  obtain ⟨w1, w2, w3, w4, w5, ⟨d1, d2, d3⟩, d4, d5⟩ := W
  obtain ⟨b1, b2⟩ := s _ _ w2 d3
  have l := w3.beside s fun b e => (d4 b e).2
  have o := w4.beside s fun b e => d5 b e
  exact ⟨b1, vs, vl, v', w1, Heap.set_same _ _ _, l.1.set d1, o.1.set d2, a.set b2, ⟨d1, d2, b2⟩, fun b e => ⟨(d4 b e).1, l.2 b e⟩, fun b e => o.2 b e⟩
theorem last_ (h0 h : Heap) (wb : Nat) (C : List Int) (w : W3) (W : WS h0 h wb C w) (hl : w.st.length ≤ 1000000) {K : PV → Heap → Prop} (k : K (.tup [.int .i64 (w.st.getD (w.st.length - 1) default), .bool (!w.st.isEmpty)]) h) :
    CanP Tryz.prog 134 [.ptr wb 0] h K := by
  refine e134 rfl ?_
  obtain ⟨vs, vl, vo, w1, w2, w3, w4, w5, -⟩ := W
  rcases w3 with ⟨rfl, e0, _⟩ | ⟨b, ds, rfl, hb0, hb, hbl, hbt⟩
  · have : w.st = [] := List.eq_nil_of_length_eq_zero e0
    rw [this] at k
    try simp only [c134, r134_0, r134_1, r134_2, r134_3, w2, pm, pmW, pmB, ft, ↓reduceIte, reduceCtorEq, nE, nA, nM, nD, nL, iL, iT, iE, iN, iC]
    exact finK_rf k
  · by_cases e0 : w.st = []
    · rw [e0] at k w2
      try simp only [c134, r134_0, r134_1, r134_2, r134_3, w2, pm, pmW, pmB, ft, ↓reduceIte, reduceCtorEq, nE, nA, nM, nD, nL, iL, iT, iE, iN, iC]
      exact finK_rf k
    · have hpos : 0 < w.st.length := List.length_pos_iff.2 e0
      have hn : ¬ ((w.st.length : Int) = 0) := by omega
      have hw : IntKind.i64.wrap ((w.st.length : Int) - 1) = ((w.st.length - 1 : Nat) : Int) := by rw [wrap_in (by omega) (by omega)]; omega
      have hlt : w.st.length - 1 < w.st.length := by omega
      have hx : ds[w.st.length - 1]? = some (.int .i64 (w.st.getD (w.st.length - 1) default)) := by
        have := getm (PV.int .i64) w.st hlt
        rw [hbt, List.getElem?_take] at this
        rw [if_pos (by omega)] at this
        exact this
      have hie : w.st.isEmpty = false := by simpa using e0
      rw [hie] at k
      have hdd : decide ((w.st.length : Int) = 0) = false := decide_eq_false hn
      try simp only [c134, r134_0, r134_1, r134_2, r134_3, w2, hdd, hn, hw, hlt, hb, hx, pm, pmW, pmB, ft, ↓reduceIte, reduceCtorEq, nE, nA, nM, nD, nL, iL, iT, iE, iN, iC]
      exact finK_rf k
theorem pop_ (h0 h : Heap) (wb : Nat) (C : List Int) (w : W3) (W : WS h0 h wb C w) (lh : h0.le h) (hl : w.st.length ≤ 1000000) (hne : w.st ≠ []) {K : PV → Heap → Prop} (k : ∀ h', WS h0 h' wb C ⟨w.st.dropLast, w.lo, w.ls⟩ → h0.le h' → K (.tup []) h') :
    CanP Tryz.prog 135 [.ptr wb 0] h K := by
  refine e135 rfl ?_
  obtain ⟨vs, vl, vo, W⟩ := W
  have W' := W
  obtain ⟨w1, w2, w3, w4, w5, -⟩ := W
  have hpos : 0 < w.st.length := List.length_pos_iff.2 hne
  obtain ⟨b, rfl⟩ := w3.live hpos
  have hw : IntKind.i64.wrap ((w.st.length : Int) - 1) = ((w.st.length - 1 : Nat) : Int) := by rw [wrap_in (by omega) (by omega)]; omega
  have hcut := w3.cut (m := w.st.length - 1) (by omega)
  have hdl : (w.st.map (PV.int .i64)).take ((w.st.length - 1) * 1) = w.st.dropLast.map (.int .i64) := by rw [Nat.mul_one, ← List.map_take, List.dropLast_eq_take]
  rw [hdl] at hcut
  have hdn : w.st.length - 1 = w.st.dropLast.length := by simp
  have hsl := fun (K : Kt) (h : Heap) (k : Option Nat) => slcB_hi (k := k) (E := 1) (b := b) (off := 0) (K := K) (h := h) (show w.st.length - 1 ≤ w.st.length by omega)
  rw [hdn] at hcut hw hsl
  obtain ⟨n1, n2⟩ := W'.newS (h4 := h) hcut fun x cs e n => ⟨e, n⟩
  try simp only [c135, r135_0, w2, hw, hsl, pm, pmW, pmB, ft, ↓reduceIte, reduceCtorEq, nE, nA, nM, nD, nL, iL, iT, iE, iN, iC]
  exact finK_rf (k _ n2 (Heap.le_set lh w1))
end Go.Proofs.YtcgaphmndnmfdaaGreat

/-
  The walk, gone: endEmbed, endIsolate, walked.
  Conditions: rows of at most a million.
-/
namespace Go.Proofs.YtcgaphmndnmfdaaGreat
open Go.Pm
open Nat renaming reduceEqDiff → nE, reduceAdd → nA, reduceMul → nM, reduceLeDiff → nD, reduceLT → nL
open Int renaming reduceLE → iL, reduceLT → iT, reduceEq → iE, reduceToNat → iN, cast_ofNat_Int → iC
set_option maxRecDepth 100000
set_option linter.unusedSimpArgs false
set_option linter.unusedVariables false

/-- What the walk holds: places of what begins. -/
def Wok (C : List Int) (n : Nat) (w : W3) : Prop := (∀ x ∈ w.st, 0 ≤ x ∧ x < (C.length : Int) ∧ (embT (atW C x) = true ∨ opensT (atW C x) = true)) ∧ w.st.length + w.lo.length + w.ls.length ≤ n
theorem last_get (l : List Int) (h : l ≠ []) : l.getD (l.length - 1) default ∈ l ∧ l = l.dropLast ++ [l.getD (l.length - 1) default] := by
  have hp : 0 < l.length := List.length_pos_iff.2 h
  have e : l.getD (l.length - 1) default = l.getLast h := by
    rw [List.getD, List.getElem?_eq_getElem (by omega), List.getLast_eq_getElem]; rfl
  rw [e]
  exact ⟨List.getLast_mem h, (List.dropLast_concat_getLast h).symm⟩
theorem at_get (C : List Int) {x : Int} (h : 0 ≤ x ∧ x < (C.length : Int)) : ∃ j : Nat, x = j ∧ j < C.length ∧ (C.map (PV.int .i64))[j]? = some (.int .i64 (atW C x)) := by
  refine ⟨x.toNat, by omega, by omega, ?_⟩
  exact getm (PV.int .i64) C (by omega)
theorem endEmbed (h0 h : Heap) (wb : Nat) (C : List Int) (hC : C.length ≤ 1000000) (w : W3) (ok : Wok C 1000000 w) (W : WS h0 h wb C w) (lh : h0.le h) (i : Int) {K : PV → Heap → Prop} (k : ∀ h', WS h0 h' wb C (endE C w i) → h0.le h' → K (.tup []) h') :
    CanP Tryz.prog 122 [.ptr wb 0, .int .i64 i] h K := by
  refine e122 rfl ?_
  obtain ⟨ok1, ok2⟩ := ok
  try simp only [c122, r122_0, r122_1, r122_2, r122_3, pm, pmW, pmB, ft, ↓reduceIte, reduceCtorEq, nE, nA, nM, nD, nL, iL, iT, iE, iN, iC]
  refine last_ h0 h wb C w W (by omega) ?_
  by_cases hc : w.st ≠ [] ∧ embT (atW C (w.st.getD (w.st.length - 1) default)) = true
  · obtain ⟨e0, he⟩ := hc
    have hE : endE C w i = ⟨w.st.dropLast, w.lo, w.ls⟩ := by rw [endE, if_pos ⟨e0, he⟩]
    rw [hE] at k
    have hie : (!w.st.isEmpty) = true := by simpa using e0
    obtain ⟨hm, -⟩ := last_get w.st e0
    obtain ⟨j, hj, hjl, hx⟩ := at_get C ⟨(ok1 _ hm).1, (ok1 _ hm).2.1⟩
    have W' := W
    obtain ⟨vs, vl, vo, V⟩ := W
    have w2 := V.2.1
    rw [hie]
    generalize w.st.getD (w.st.length - 1) default = x at *
    subst hj
    try simp only [w2, hjl, hx, olds_ints, pm, pmW, pmB, ft, ↓reduceIte, reduceCtorEq, nE, nA, nM, nD, nL, iL, iT, iE, iN, iC]
    refine embeds _ _ ?_
    rw [he]
    try simp only [pm, pmW, pmB, ft, ↓reduceIte, reduceCtorEq, nE, nA, nM, nD, nL, iL, iT, iE, iN, iC]
    refine pop_ h0 h wb C w W' lh (by omega) e0 fun h' n2 l2 => ?_
    try simp only [pm, pmW, pmB, ft, ↓reduceIte, reduceCtorEq, nE, nA, nM, nD, nL, iL, iT, iE, iN, iC]
    exact finK_rf (k _ n2 l2)
  · have hE : endE C w i = ⟨w.st, w.lo, w.ls ++ [i]⟩ := by rw [endE, if_neg hc]
    rw [hE] at k
    obtain ⟨vs, vl, vo, V⟩ := W
    have w2 := V.2.1
    obtain ⟨ho, hf⟩ := stk_oldv V.2.2.2.2.1
    have tail : ∀ (K4 : Kt), (∀ v' h4, Pm.flat v' = some [v'] → h4.f wb = some [.list false 1 C.length (C.map (.int .i64)), vs, vl, vo] → (K (.tup []) (h4.set wb [.list false 1 C.length (C.map (.int .i64)), vs, vl, v'])) → K4 v' h4) → ap2K (some (1, [.int .i64 i])) 1 8 vo K4 h := by
      intro K4 k4
      refine V.2.2.2.2.1.app lh (by decide) rfl (by omega) (by simp only [maxLen]; omega) fun v' h4 a4 l4 sd => ?_
      obtain ⟨vo', vf'⟩ := stk_oldv a4
      have a4' : Stk h0 h4 v' 1 (w.ls ++ [i]).length ((w.ls ++ [i]).map (.int .i64)) := by simpa using a4
      obtain ⟨n1, n2⟩ := V.newO a4' sd
      exact k4 _ _ vf' n1 (k _ n2 (Heap.le_set l4 V.1))
    by_cases e0 : w.st = []
    · have hie : (!w.st.isEmpty) = false := by simp [e0]
      rw [hie]
      try simp only [w2, ho, pm, pmW, pmB, ft, ↓reduceIte, reduceCtorEq, nE, nA, nM, nD, nL, iL, iT, iE, iN, iC]
      refine tail _ fun v' h4 vf' n1 k4 => ?_
      try simp only [n1, vf', pm, pmW, pmB, ft, ↓reduceIte, reduceCtorEq, nE, nA, nM, nD, nL, iL, iT, iE, iN, iC]
      exact finK_rf k4
    · have he : embT (atW C (w.st.getD (w.st.length - 1) default)) = false := by
        cases q : embT (atW C (w.st.getD (w.st.length - 1) default))
        · rfl
        · exact absurd ⟨e0, q⟩ hc
      have hie : (!w.st.isEmpty) = true := by simpa using e0
      obtain ⟨hm, -⟩ := last_get w.st e0
      obtain ⟨j, hj, hjl, hx⟩ := at_get C ⟨(ok1 _ hm).1, (ok1 _ hm).2.1⟩
      rw [hie]
      clear hc hE
      generalize w.st.getD (w.st.length - 1) default = x at *
      subst hj
      try simp only [w2, hjl, hx, olds_ints, pm, pmW, pmB, ft, ↓reduceIte, reduceCtorEq, nE, nA, nM, nD, nL, iL, iT, iE, iN, iC]
      refine embeds _ _ ?_
      rw [he]
      try simp only [w2, ho, pm, pmW, pmB, ft, ↓reduceIte, reduceCtorEq, nE, nA, nM, nD, nL, iL, iT, iE, iN, iC]
      refine tail _ fun v' h4 vf' n1 k4 => ?_
      try simp only [n1, vf', pm, pmW, pmB, ft, ↓reduceIte, reduceCtorEq, nE, nA, nM, nD, nL, iL, iT, iE, iN, iC]
      exact finK_rf k4
end Go.Proofs.YtcgaphmndnmfdaaGreat

/-
  The walk, gone: endIsolate, walked.
  Conditions: rows of at most a million.
-/
namespace Go.Proofs.YtcgaphmndnmfdaaGreat
open Go.Pm
open Nat renaming reduceEqDiff → nE, reduceAdd → nA, reduceMul → nM, reduceLeDiff → nD, reduceLT → nL
open Int renaming reduceLE → iL, reduceLT → iT, reduceEq → iE, reduceToNat → iN, cast_ofNat_Int → iC
set_option maxRecDepth 100000
set_option linter.unusedSimpArgs false
set_option linter.unusedVariables false

theorem IndexLive (b : Nat) (X : List Int) (hX : X.length ≤ 1000000) (ds : List PV) (h : Heap) (hd : h.f b = some ds) (hds : ∀ i, i < X.length → ds[i]? = some (.int .i64 (X.getD i default))) (q : Int → Bool) (g : FuncId) (caps : List PV)
    (hq : ∀ x ∈ X, ∀ (K : PV → Heap → Prop), K (.bool (q x)) h → CanP Tryz.prog g (olds [] ++ [.int .i64 x] ++ olds caps) h K) {K : PV → Heap → Prop} (k : K (.int .i64 (findI q X 0)) h) :
    CanP Tryz.prog 117 [.buf b 1 0 X.length, .fn g [] caps] h K := by
  refine e117 rfl ?_
  try simp only [c117, r117_0, r117_1, r117_2, r117_3, r117_4, r117_5, r117_6, r117_7, pm, pmW, pmB, ft, ↓reduceIte, reduceCtorEq, nE, nA, nM, nD, nL, iL, iT, iE, iN, iC]
  refine pwp_up X.length (fun i σ h' => h' = h ∧ σ 0 = .buf b 1 0 X.length ∧ σ 1 = .fn g [] (olds caps) ∧ σ 7 = .int .i64 X.length ∧ σ 8 = .int .i64 i ∧ findI q X 0 = findI q (X.drop i) i) ?_ ?_
  · exact ⟨rfl, rfl, rfl, rfl, rfl, rfl⟩
  rintro i σ h' K' hi' ⟨rfl, s0, s1, s7, s8, hp⟩ next
  rcases Nat.lt_or_ge i X.length with hlt | hge
  · have hx := hds i hlt
    have hxm := get_mem X hlt
    rw [drop_getD X hlt] at hp
    generalize X.getD i default = p at *
    try simp only [hx, hlt, s0, s1, s7, s8, hd, pm, pmW, pmB, ft, ↓reduceIte, reduceCtorEq, nE, nA, nM, nD, nL, iL, iT, iE, iN, iC]
    refine hq _ hxm _ ?_
    cases h1 : q p
    · try simp only [s0, s1, s7, s8, pm, pmW, pmB, ft, ↓reduceIte, reduceCtorEq, nE, nA, nM, nD, nL, iL, iT, iE, iN, iC]
      rw [wrap_in (by omega) (by omega)]
      exact next hlt _ _ ⟨rfl, by simp [put, s0], by simp [put, s1], by simp [put, s7], by simp [put], by simpa [findI, h1] using hp⟩
    · try simp only [s0, s1, s7, s8, pm, pmW, pmB, ft, ↓reduceIte, reduceCtorEq, nE, nA, nM, nD, nL, iL, iT, iE, iN, iC]
      exact finK_le (Heap.le_refl _) (by simpa [hp, findI, h1] using k)
  · have e : i = X.length := by omega
    subst e
    have hnl := Nat.lt_irrefl X.length
    try simp only [s0, s7, s8, hnl, pm, pmW, pmB, ft, ↓reduceIte, reduceCtorEq, nE, nA, nM, nD, nL, iL, iT, iE, iN, iC]
    exact finK_le (Heap.le_refl _) (by simpa [hp, findI] using k)
theorem IndexNil (h : Heap) (g : FuncId) (caps : List PV) {K : PV → Heap → Prop} (k : K (.int .i64 (-1)) h) : CanP Tryz.prog 117 [.nils, .fn g [] caps] h K := by
  refine e117 rfl ?_
  try simp only [c117, r117_0, r117_1, r117_2, r117_3, r117_4, r117_5, r117_6, r117_7, pm, pmW, pmB, ft, ↓reduceIte, reduceCtorEq, nE, nA, nM, nD, nL, iL, iT, iE, iN, iC]
  refine pwp_up 0 (fun i σ h' => h' = h ∧ σ 7 = .int .i64 0 ∧ σ 8 = .int .i64 0) ?_ ?_
  · exact ⟨rfl, rfl, rfl⟩
  rintro i σ h' K' hi' ⟨rfl, s7, s8⟩ next
  try simp only [s7, s8, pm, pmW, pmB, ft, ↓reduceIte, reduceCtorEq, nE, nA, nM, nD, nL, iL, iT, iE, iN, iC]
  exact finK_le (Heap.le_refl _) k
theorem ContainsLive (h0 : Heap) (v : PV) (X : List Int) (hX : X.length ≤ 1000000) (h : Heap) (a : Stk h0 h v 1 X.length (X.map (.int .i64))) (q : Int → Bool) (g : FuncId) (caps : List PV)
    (hq : ∀ x ∈ X, ∀ (K : PV → Heap → Prop), K (.bool (q x)) h → CanP Tryz.prog g (olds [] ++ [.int .i64 x] ++ olds (olds caps)) h K) {K : PV → Heap → Prop} (k : K (.bool (X.any q)) h) :
    CanP Tryz.prog 72 [v, .fn g [] caps] h K := by
  refine e72 rfl ?_
  rcases a with ⟨rfl, e0, _⟩ | ⟨b, ds, rfl, hb0, hb, hbl, hbt⟩
  · have : X = [] := List.eq_nil_of_length_eq_zero e0
    subst this
    try simp only [c72, r72_0, r72_1, pm, pmW, pmB, ft, ↓reduceIte, reduceCtorEq, nE, nA, nM, nD, nL, iL, iT, iE, iN, iC]
    refine IndexNil _ _ _ ?_
    try simp only [pm, pmW, pmB, ft, ↓reduceIte, reduceCtorEq, nE, nA, nM, nD, nL, iL, iT, iE, iN, iC]
    exact finK_le (Heap.le_refl _) k
  · try simp only [c72, r72_0, r72_1, pm, pmW, pmB, ft, ↓reduceIte, reduceCtorEq, nE, nA, nM, nD, nL, iL, iT, iE, iN, iC]
    refine IndexLive b X hX ds h hb (fun i hi => ?_) q g _ hq ?_
    · have := getm (PV.int .i64) X hi
      rw [hbt, List.getElem?_take, if_pos (by omega)] at this
      exact this
    · try simp only [pm, pmW, pmB, ft, ↓reduceIte, reduceCtorEq, nE, nA, nM, nD, nL, iL, iT, iE, iN, iC]
      have := findI_nonneg q X 0 (by omega)
      rw [this]
      exact finK_le (Heap.le_refl _) k
theorem endIso1 (h0 h : Heap) (wb : Nat) (C : List Int) (w : W3) (W : WS h0 h wb C w) (fr : Bool) (x : Int) (hx : 0 ≤ x ∧ x < (C.length : Int)) {K : PV → Heap → Prop} (k : K (.bool (isoB C x)) h) :
    CanP Tryz.prog 136 [.int .i64 x, .fptr fr [.ptr wb 0] 0] h K := by
  refine e136 rfl ?_
  obtain ⟨vs, vl, vo, V⟩ := W
  have w2 := V.2.1
  obtain ⟨j, hj, hjl, hg⟩ := at_get C hx
  clear hx
  rw [isoB] at k
  generalize atW C x = c at *
  subst hj
  try simp only [c136, r136_0, r136_1, w2, hjl, hg, olds_ints, pm, pmW, pmB, ft, ↓reduceIte, reduceCtorEq, nE, nA, nM, nD, nL, iL, iT, iE, iN, iC]
  refine isolates _ _ ?_
  try simp only [pm, pmW, pmB, ft, ↓reduceIte, reduceCtorEq, nE, nA, nM, nD, nL, iL, iT, iE, iN, iC]
  exact finK_rf k
theorem popR_len (C : List Int) : ∀ r, (popR C r).1.length + (popR C r).2.length ≤ r.length
  | [] => by simp [popR]
  | x :: r => by
    have := popR_len C r
    rw [popR]; split
    · simp
    · simp; omega
theorem endIsolate (h0 h : Heap) (wb : Nat) (C : List Int) (hC : C.length ≤ 1000000) (w : W3) (ok : Wok C 1000000 w) (W : WS h0 h wb C w) (lh : h0.le h) (i : Int) {K : PV → Heap → Prop} (k : ∀ h', WS h0 h' wb C (endI C w i) → h0.le h' → K (.tup []) h') :
    CanP Tryz.prog 123 [.ptr wb 0, .int .i64 i] h K := by
  refine e123 rfl ?_
  obtain ⟨ok1, ok2⟩ := ok
  have W' := W
  obtain ⟨vs, vl, vo, V⟩ := W
  have w2 := V.2.1
  obtain ⟨so, sf⟩ := stk_oldv V.2.2.1
  try simp only [c123, r123_0, r123_1, r123_2, r123_3, r123_4, r123_5, r123_6, r123_7, w2, so, pm, pmW, pmB, ft, ↓reduceIte, reduceCtorEq, nE, nA, nM, nD, nL, iL, iT, iE, iN, iC]
  refine ContainsLive h0 vs w.st (by omega) h V.2.2.1 (isoB C) _ _ (fun x hx K k => ?_) ?_
  · try simp only [pm, pmW, pmB, ft, ↓reduceIte, reduceCtorEq, nE, nA, nM, nD, nL, iL, iT, iE, iN, iC]
    exact endIso1 h0 h wb C w W' _ x ⟨(ok1 x hx).1, (ok1 x hx).2.1⟩ k
  cases hany : w.st.any (isoB C)
  · have hE : endI C w i = ⟨w.st, w.lo, w.ls ++ [i]⟩ := by rw [endI, if_neg (by simp [hany])]
    rw [hE] at k
    obtain ⟨ho, hf⟩ := stk_oldv V.2.2.2.2.1
    try simp only [w2, ho, pm, pmW, pmB, ft, ↓reduceIte, reduceCtorEq, nE, nA, nM, nD, nL, iL, iT, iE, iN, iC]
    refine V.2.2.2.2.1.app lh (by decide) rfl (by omega) (by simp only [maxLen]; omega) fun v' h4 a4 l4 sd => ?_
    obtain ⟨vo', vf'⟩ := stk_oldv a4
    have a4' : Stk h0 h4 v' 1 (w.ls ++ [i]).length ((w.ls ++ [i]).map (.int .i64)) := by simpa using a4
    obtain ⟨n1, n2⟩ := V.newO a4' sd
    try simp only [n1, vf', pm, pmW, pmB, ft, ↓reduceIte, reduceCtorEq, nE, nA, nM, nD, nL, iL, iT, iE, iN, iC]
    exact finK_rf (k _ n2 (Heap.le_set l4 V.1))
  · have hE : endI C w i = ⟨(popR C w.st.reverse).2.reverse, w.lo ++ (popR C w.st.reverse).1, w.ls⟩ := by rw [endI, if_pos hany]
    rw [hE] at k
    try simp only [pm, pmW, pmB, ft, ↓reduceIte, reduceCtorEq, nE, nA, nM, nD, nL, iL, iT, iE, iN, iC]
    refine pwp_fall (fun n σ h' => ∃ u : W3, n = u.st.length ∧ WS h0 h' wb C u ∧ h0.le h' ∧ u.st.any (isoB C) = true ∧ u.ls = w.ls ∧ (popR C u.st.reverse).2 = (popR C w.st.reverse).2 ∧ u.lo ++ (popR C u.st.reverse).1 = w.lo ++ (popR C w.st.reverse).1 ∧ Wok C 1000000 u
      ∧ (∃ fr, σ 2 = .fptr fr [.ptr wb 0] 0)) w.st.length ⟨w, rfl, W', lh, hany, rfl, rfl, rfl, ⟨ok1, ok2⟩, _, by simp [put]; rfl⟩ ?_
    clear V W' w2 so sf hany ok1 ok2
    rintro n σ h' K' ⟨u, rfl, W, lh, hany, u1, u2, u3, ⟨ok1, ok2⟩, fr, s2⟩ next
    have hne : u.st ≠ [] := fun e => by rw [e] at hany; cases hany
    obtain ⟨hm, hsp⟩ := last_get u.st hne
    try simp only [s2, pm, pmW, pmB, ft, ↓reduceIte, reduceCtorEq, nE, nA, nM, nD, nL, iL, iT, iE, iN, iC]
    refine last_ h0 h' wb C u W (by omega) ?_
    try simp only [s2, pm, pmW, pmB, ft, ↓reduceIte, reduceCtorEq, nE, nA, nM, nD, nL, iL, iT, iE, iN, iC]
    refine pop_ h0 h' wb C u W lh (by omega) hne fun h2 W2 l2 => ?_
    obtain ⟨j, hj, hjl, hx⟩ := at_get C ⟨(ok1 _ hm).1, (ok1 _ hm).2.1⟩
    have hdl : u.st.dropLast.length = u.st.length - 1 := by simp
    have hpos : 0 < u.st.length := List.length_pos_iff.2 hne
    generalize u.st.getD (u.st.length - 1) default = x at *
    generalize hD : u.st.dropLast = D at *
    have hrev : u.st.reverse = x :: D.reverse := by rw [hsp]; simp
    rw [hrev, popR] at u2 u3
    have W3' := W2
    obtain ⟨vs, vl, vo, V⟩ := W2
    have w2 := V.2.1
    obtain ⟨lo, lf⟩ := stk_oldv V.2.2.2.1
    have hiso : isoB C x = opensT (atW C x) := rfl
    subst hj
    try simp only [s2, w2, hjl, hx, olds_ints, pm, pmW, pmB, ft, ↓reduceIte, reduceCtorEq, nE, nA, nM, nD, nL, iL, iT, iE, iN, iC]
    refine isolates _ _ ?_
    cases hop : opensT (atW C (j : Int))
    · rw [hop, if_neg (by simp)] at u2 u3
      try simp only [s2, w2, lo, pm, pmW, pmB, ft, ↓reduceIte, reduceCtorEq, nE, nA, nM, nD, nL, iL, iT, iE, iN, iC]
      refine V.2.2.2.1.app l2 (by decide) rfl (by simp only []; omega) (by simp only [maxLen]; omega) fun v' h4 a4 l4 sd => ?_
      obtain ⟨vo', vf'⟩ := stk_oldv a4
      have a4' : Stk h0 h4 v' 1 (u.lo ++ [(j : Int)]).length ((u.lo ++ [(j : Int)]).map (.int .i64)) := by simpa using a4
      obtain ⟨n1, n2⟩ := V.newL a4' sd
      try simp only [n1, vf', pm, pmW, pmB, ft, ↓reduceIte, reduceCtorEq, nE, nA, nM, nD, nL, iL, iT, iE, iN, iC]
      refine next D.length _ _ (by omega) ⟨⟨D, u.lo ++ [(j : Int)], u.ls⟩, rfl, n2, Heap.le_set l4 V.1, ?_, u1, u2, by rw [← u3]; simp, ⟨fun y hy => ok1 y (by rw [hsp]; simp [hy]), by simp only [List.length_append, List.length_singleton]; omega⟩, fr, by simp [put, s2]⟩
      rw [hsp, List.any_append] at hany
      simpa [hiso, hop] using hany
    · rw [hop, if_pos rfl] at u2 u3
      try simp only [pm, pmW, pmB, ft, ↓reduceIte, reduceCtorEq, nE, nA, nM, nD, nL, iL, iT, iE, iN, iC]
      simp only [List.append_nil] at u3
      refine finK_rf (k _ ?_ l2)
      rw [← u2, ← u3, ← u1, List.reverse_reverse]
      exact W3'
end Go.Proofs.YtcgaphmndnmfdaaGreat

/-
  A paragraph, gone through (balance.walked), and what is open, loose, and ends it.
  Conditions: rows of at most a million.
-/
namespace Go.Proofs.YtcgaphmndnmfdaaGreat
open Go.Pm
open Nat renaming reduceEqDiff → nE, reduceAdd → nA, reduceMul → nM, reduceLeDiff → nD, reduceLT → nL
open Int renaming reduceLE → iL, reduceLT → iT, reduceEq → iE, reduceToNat → iN, cast_ofNat_Int → iC
set_option maxRecDepth 100000
set_option linter.unusedSimpArgs false
set_option linter.unusedVariables false

theorem popR_mem (C : List Int) : ∀ (r : List Int) (x : Int), x ∈ (popR C r).2 → x ∈ r
  | [], x, h => by simp [popR] at h
  | y :: r, x, h => by
    rw [popR] at h
    split at h
    · exact List.mem_cons_of_mem _ h
    · exact List.mem_cons_of_mem _ (popR_mem C r x h)
theorem wk_ok (C : List Int) : ∀ i, i ≤ C.length → Wok C i (wk C i)
  | 0, _ => ⟨fun x h => (nomatch h), by simp [wk]⟩
  | i + 1, hi => by
    obtain ⟨h1, h2⟩ := wk_ok C i (by omega)
    rw [wk, stepW]
    have hat : atW C (i : Int) = C.getD i default := rfl
    split
    · rename_i hc
      refine ⟨fun x hx => ?_, by simp only [List.length_append, List.length_singleton]; omega⟩
      rcases List.mem_append.1 hx with hx | hx
      · exact h1 x hx
      · rw [List.mem_singleton.1 hx, hat]
        exact ⟨by omega, by omega, hc⟩
    · split
      · rw [endE]
        split
        · refine ⟨fun x hx => h1 x (List.dropLast_subset _ hx), by simp only [List.length_dropLast]; omega⟩
        · exact ⟨h1, by simp only [List.length_append, List.length_singleton]; omega⟩
      · split
        · rw [endI]
          split
          · refine ⟨fun x hx => h1 x (List.mem_reverse.1 (popR_mem C _ x (List.mem_reverse.1 hx))), ?_⟩
            have := popR_len C (wk C i).st.reverse
            simp only [List.length_append, List.length_reverse] at this ⊢
            omega
          · exact ⟨h1, by simp only [List.length_append, List.length_singleton]; omega⟩
        · exact ⟨h1, by omega⟩
theorem Wok.le {C : List Int} {n m : Nat} {w : W3} (h : Wok C n w) (l : n ≤ m) : Wok C m w := ⟨h.1, by have := h.2; omega⟩
def wkT (C : List Int) : W3 := wk C C.length
/-- The walk, gone: it is only read from now on. -/
def walkV (f g : Bool) (C : List Int) (w : W3) : PV := .fptr f [.list false 1 C.length (C.map (.int .i64)), .list g 1 w.st.length (w.st.map (.int .i64)), .list g 1 w.lo.length (w.lo.map (.int .i64)), .list g 1 w.ls.length (w.ls.map (.int .i64))] 0
theorem old_walkV (f g : Bool) (C : List Int) (w : W3) : (walkV f g C w).old = walkV false false C w := by simp [walkV, PV.old, olds, olds_ints]
theorem walked (fr : Bool) (C : List Int) (hC : C.length ≤ 1000000) (h : Heap) {K : PV → Heap → Prop} (k : K (walkV true true C (wkT C)) h) : CanP Tryz.prog 89 [.list fr 1 C.length (C.map (.int .i64))] h K := by
  refine e89 rfl ?_
  try simp only [c89, r89_0, r89_1, r89_2, r89_3, r89_4, r89_5, r89_6, r89_7, r89_8, r89_9, r89_10, r89_11, r89_12, r89_13, pm, pmW, pmB, ft, ↓reduceIte, reduceCtorEq, nE, nA, nM, nD, nL, iL, iT, iE, iN, iC]
  intro wb hwb
  refine pwp_up C.length (fun i σ h' => WS h h' wb C (wk C i) ∧ h.le h' ∧ σ 3 = .ptr wb 0 ∧ σ 9 = .list false 1 C.length (C.map (.int .i64)) ∧ σ 10 = .int .i64 C.length ∧ σ 11 = .int .i64 i) ?_ ?_
  · refine ⟨⟨.nils, .nils, .nils, hwb, by rw [Heap.set_same], Stk.nil _ _ _, Stk.nil _ _ _, Stk.nil _ _ _, ⟨by simp [blkOf], by simp [blkOf], by simp [blkOf]⟩, fun b e => by simp [blkOf] at e, fun b e => by simp [blkOf] at e⟩, Heap.le_set (Heap.le_refl _) hwb, rfl, rfl, rfl, rfl⟩
  rintro i σ h' K' hi ⟨W, lh, s3, s9, s10, s11⟩ next
  rcases Nat.lt_or_ge i C.length with hlt | hge
  · have hw : IntKind.i64.wrap ((i : Int) + 1) = (i : Int) + 1 := wrap_in (by omega) (by omega)
    have hx := getm (PV.int .i64) C hlt
    have ok := (wk_ok C i (by omega)).le (m := 1000000) (by omega)
    have oi := wk_ok C i (by omega)
    have hn : wk C (i + 1) = stepW C (wk C i) i (C.getD i default) := rfl
    generalize C.getD i default = c at *
    generalize wk C i = w at *
    have fin9 : ∀ (σ' : Sl) (h4 : Heap), WS h h4 wb C (wk C (i + 1)) → h.le h4 → σ' 3 = σ 3 → σ' 9 = σ 9 → σ' 10 = σ 10 → σ' 11 = .int .i64 ((i : Int) + 1) → K' σ' h4 := fun σ' h4 a4 l4 q3 q9 q10 q11 =>
      next hlt _ _ ⟨a4, l4, by rw [q3, s3], by rw [q9, s9], by rw [q10, s10], by rw [q11]; rfl⟩
    have push : ∀ (vs vl vo : PV) (V : WV h h' wb vs vl vo C w) (K4 : Kt), (∀ v' h4, Pm.flat v' = some [v'] → h4.f wb = some [.list false 1 C.length (C.map (.int .i64)), vs, vl, vo] → WS h (h4.set wb [.list false 1 C.length (C.map (.int .i64)), v', vl, vo]) wb C ⟨w.st ++ [(i : Int)], w.lo, w.ls⟩ → h.le (h4.set wb [.list false 1 C.length (C.map (.int .i64)), v', vl, vo]) → K4 v' h4) → ap2K (some (1, [.int .i64 i])) 1 8 vs K4 h' := by
      intro vs vl vo V K4 k4
      refine V.2.2.1.app lh (by decide) rfl (by have := oi.2; omega) (by have := oi.2; simp only [maxLen]; omega) fun v' h4 a4 l4 sd => ?_
      obtain ⟨vo', vf'⟩ := stk_oldv a4
      have a4' : Stk h h4 v' 1 (w.st ++ [(i : Int)]).length ((w.st ++ [(i : Int)]).map (.int .i64)) := by simpa using a4
      obtain ⟨n1, n2⟩ := V.newS a4' sd
      exact k4 _ _ vf' n1 n2 (Heap.le_set l4 V.1)
    try simp only [s3, s9, s10, s11, hlt, hx, pm, pmW, pmB, ft, ↓reduceIte, reduceCtorEq, nE, nA, nM, nD, nL, iL, iT, iE, iN, iC]
    refine embeds _ _ ?_
    cases he : embT c
    · try simp only [pm, pmW, pmB, ft, ↓reduceIte, reduceCtorEq, nE, nA, nM, nD, nL, iL, iT, iE, iN, iC]
      refine isolates _ _ ?_
      cases ho : opensT c
      · try simp only [pm, pmW, pmB, ft, ↓reduceIte, reduceCtorEq, nE, nA, nM, nD, nL, iL, iT, iE, iN, iC]
        by_cases h18 : c = 18
        · have hN : wk C (i + 1) = endE C w i := by rw [hn, stepW, if_neg (by simp [he, ho]), if_pos h18]
          rw [hN] at fin9
          have hd : decide (c = 18) = true := decide_eq_true h18
          try simp only [hd, s3, pm, pmW, pmB, ft, ↓reduceIte, reduceCtorEq, nE, nA, nM, nD, nL, iL, iT, iE, iN, iC]
          refine endEmbed h h' wb C hC w ok W lh i fun h4 W4 l4 => ?_
          try simp only [s11, hw, pm, pmW, pmB, ft, ↓reduceIte, reduceCtorEq, nE, nA, nM, nD, nL, iL, iT, iE, iN, iC]
          exact fin9 _ _ W4 l4 (by simp [put]) (by simp [put]) (by simp [put]) (by simp [put])
        · have hd : decide (c = 18) = false := decide_eq_false h18
          by_cases h22 : c = 22
          · have hN : wk C (i + 1) = endI C w i := by rw [hn, stepW, if_neg (by simp [he, ho]), if_neg h18, if_pos h22]
            rw [hN] at fin9
            have hd2 : decide (c = 22) = true := decide_eq_true h22
            try simp only [hd, hd2, s3, pm, pmW, pmB, ft, ↓reduceIte, reduceCtorEq, nE, nA, nM, nD, nL, iL, iT, iE, iN, iC]
            refine endIsolate h h' wb C hC w ok W lh i fun h4 W4 l4 => ?_
            try simp only [s11, hw, pm, pmW, pmB, ft, ↓reduceIte, reduceCtorEq, nE, nA, nM, nD, nL, iL, iT, iE, iN, iC]
            exact fin9 _ _ W4 l4 (by simp [put]) (by simp [put]) (by simp [put]) (by simp [put])
          · have hN : wk C (i + 1) = w := by rw [hn, stepW, if_neg (by simp [he, ho]), if_neg h18, if_neg h22]
            rw [hN] at fin9
            have hd2 : decide (c = 22) = false := decide_eq_false h22
            try simp only [hd, hd2, s11, hw, pm, pmW, pmB, ft, ↓reduceIte, reduceCtorEq, nE, nA, nM, nD, nL, iL, iT, iE, iN, iC]
            exact fin9 _ _ W lh (by simp [put]) (by simp [put]) (by simp [put]) (by simp [put])
      · have hN : wk C (i + 1) = ⟨w.st ++ [(i : Int)], w.lo, w.ls⟩ := by rw [hn, stepW, if_pos (by simp [ho])]
        rw [hN] at fin9
        obtain ⟨vs, vl, vo, V⟩ := W
        have w2 := V.2.1
        obtain ⟨so, sf⟩ := stk_oldv V.2.2.1
        try simp only [s3, w2, so, pm, pmW, pmB, ft, ↓reduceIte, reduceCtorEq, nE, nA, nM, nD, nL, iL, iT, iE, iN, iC]
        refine push vs vl vo V _ fun v' h4 vf' n1 n2 n3 => ?_
        try simp only [n1, vf', s11, hw, pm, pmW, pmB, ft, ↓reduceIte, reduceCtorEq, nE, nA, nM, nD, nL, iL, iT, iE, iN, iC]
        exact fin9 _ _ n2 n3 (by simp [put]) (by simp [put]) (by simp [put]) (by simp [put])
    · have hN : wk C (i + 1) = ⟨w.st ++ [(i : Int)], w.lo, w.ls⟩ := by rw [hn, stepW, if_pos (by simp [he])]
      rw [hN] at fin9
      obtain ⟨vs, vl, vo, V⟩ := W
      have w2 := V.2.1
      obtain ⟨so, sf⟩ := stk_oldv V.2.2.1
      try simp only [s3, w2, so, pm, pmW, pmB, ft, ↓reduceIte, reduceCtorEq, nE, nA, nM, nD, nL, iL, iT, iE, iN, iC]
      refine push vs vl vo V _ fun v' h4 vf' n1 n2 n3 => ?_
      try simp only [n1, vf', s11, hw, pm, pmW, pmB, ft, ↓reduceIte, reduceCtorEq, nE, nA, nM, nD, nL, iL, iT, iE, iN, iC]
      exact fin9 _ _ n2 n3 (by simp [put]) (by simp [put]) (by simp [put]) (by simp [put])
  · have e : i = C.length := by omega
    subst e
    have hnl := Nat.lt_irrefl C.length
    try simp only [s3, s10, s11, hnl, pm, pmW, pmB, ft, ↓reduceIte, reduceCtorEq, nE, nA, nM, nD, nL, iL, iT, iE, iN, iC]
    obtain ⟨vs, vl, vo, w1, w2, w3, w4, w5, -⟩ := W
    refine finK_wk (Wk.box (us := [.list false 1 C.length (C.map (.int .i64)), .list true 1 (wkT C).st.length ((wkT C).st.map (.int .i64)), .list true 1 (wkT C).lo.length ((wkT C).lo.map (.int .i64)), .list true 1 (wkT C).ls.length ((wkT C).ls.map (.int .i64))]) lh w1 w2 w1 ⟨?_, ?_, ?_, ?_, trivial⟩) k
    · have := Wc.old (h0 := h) (h' := h') (h2 := h) (.list false 1 C.length (C.map (.int .i64))) lh
      simpa [PV.old, olds_ints] using this
    · have := w3.wc lh
      rwa [olds_ints] at this
    · have := w4.wc lh
      rwa [olds_ints] at this
    · have := w5.wc lh
      rwa [olds_ints] at this
end Go.Proofs.YtcgaphmndnmfdaaGreat
