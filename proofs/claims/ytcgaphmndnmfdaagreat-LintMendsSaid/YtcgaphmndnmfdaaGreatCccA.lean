/-
  Combining classes: the package ccc (New, Of, Ordered, Places, Order).
  Conditions: none but those that each sentence tells.
-/
import Derived.Test.YtcgaphmndnmfdaaGreatTrieA
import Derived.Test.YtcgaphmndnmfdaaGreatRngC
import Derived.Test.YtcgaphmndnmfdaaGreatRef06
import Derived.Test.YtcgaphmndnmfdaaGreatStbInt
import Derived.Test.YtcgaphmndnmfdaaGreatIntsEq
namespace Go.Proofs.YtcgaphmndnmfdaaGreat
open Go.Pm
open Nat renaming reduceEqDiff → nE, reduceAdd → nA, reduceMul → nM, reduceLeDiff → nD, reduceLT → nL
open Int renaming reduceLE → iL, reduceLT → iT, reduceEq → iE, reduceToNat → iN, cast_ofNat_Int → iC
set_option maxRecDepth 100000
set_option linter.unusedSimpArgs false
set_option linter.unusedVariables false

def cccT (c : Int) : Int := getT crs 0 c
theorem cccT_eq (c : Int) : getR crs 0 c = cccT c := by
  unfold cccT getT
  split
  · rfl
  · rename_i h
    obtain ⟨m1, _⟩ := may_spec crs (-1) crs_ok
    refine getR_skip fun r hr => ?_
    obtain ⟨i, h1, h2⟩ := List.mem_iff_getElem.1 hr
    have := m1 i h1
    rw [List.getD, List.getElem?_eq_getElem h1, Option.getD_some, h2] at this
    omega
theorem ccc_in (c : Int) : 0 ≤ cccT c ∧ cccT c ≤ 255 := by
  have ok : crs.all (fun r => decide (0 ≤ r.2.2 ∧ r.2.2 ≤ 255)) = true := by kernel_rfl
  unfold cccT getT
  split
  · unfold getR
    cases hr : crs.find? (fun r => decide (r.1 ≤ c ∧ c ≤ r.2.1)) with
    | some r =>
      have := List.all_eq_true.1 ok _ (List.mem_of_find?_eq_some hr)
      simpa using this
    | none => simp
  · omega
/-- What tells classes: a call's, or nobody's. -/
def CO (v : PV) (f : Int → Int) : Prop := (∃ fr f1 F B, v = .fptr fr [tab f1 F B 0] 0 ∧ Tab crs 0 F B ∧ f = cccT) ∨ ((v = .nilp ∨ ∃ fr, v = .fptr fr [.nilp] 0) ∧ f = fun _ => 0)
theorem CO.old {v : PV} {f : Int → Int} (h : CO v f) : CO v.old f := by
  rcases h with ⟨fr, f1, F, B, rfl, a, b⟩ | ⟨rfl | ⟨fr, rfl⟩, e⟩
  · exact .inl ⟨false, false, F, B, by simp [PV.old, olds, old_tab], a, b⟩
  · exact .inr ⟨.inl rfl, e⟩
  · exact .inr ⟨.inr ⟨false, rfl⟩, e⟩
theorem CO.old2 {v : PV} {f : Int → Int} (h : CO v f) : v.old.old = v.old := by
  rcases h with ⟨fr, f1, F, B, rfl, a, b⟩ | ⟨rfl | ⟨fr, rfl⟩, e⟩
  · simp [PV.old, olds, old_tab]
  · rfl
  · rfl
theorem CO.flat {v : PV} {f : Int → Int} (h : CO v f) : Pm.flat v = some [v] := by
  rcases h with ⟨fr, f1, F, B, rfl, a, b⟩ | ⟨rfl | ⟨fr, rfl⟩, e⟩ <;> rfl
theorem CO.rng {v : PV} {f : Int → Int} (h : CO v f) (c : Int) : 0 ≤ f c ∧ f c ≤ 255 := by
  rcases h with ⟨fr, f1, F, B, rfl, a, rfl⟩ | ⟨_, rfl⟩
  · exact ccc_in c
  · show (0 : Int) ≤ 0 ∧ (0 : Int) ≤ 255
    omega
theorem cccNew (h : Heap) {K : PV → Heap → Prop} (k : ∀ v, CO v cccT → K v h) : CanP Tryz.prog 9 [] h K := by
  refine e9 rfl ?_
  try simp only [c9, r9_0, r9_1, r9_2, r9_3, r9_4, pm, pmW, pmB, ft, ↓reduceIte, reduceCtorEq, nE, nA, nM, nD, nL, iL, iT, iE, iN, iC]
  refine Combining _ ?_
  try simp only [pm, pmW, pmB, ft, ↓reduceIte, reduceCtorEq, nE, nA, nM, nD, nL, iL, iT, iE, iN, iC]
  refine Build _ _ crs_ok (by decide) _ _ fun F B T => ?_
  try simp only [tab, pm, pmW, pmB, ft, ↓reduceIte, reduceCtorEq, nE, nA, nM, nD, nL, iL, iT, iE, iN, iC]
  exact finK_le (Heap.le_refl _) (k _ (.inl ⟨true, true, F, B, rfl, T, rfl⟩))
theorem Of (v : PV) (f : Int → Int) (hv : CO v f) (c : Int) (h : Heap) {K : PV → Heap → Prop} (k : K (.int .i64 (f c)) h) : CanP Tryz.prog 115 [v, .int .i64 c] h K := by
  refine e115 rfl ?_
  rcases hv with ⟨fr, f1, F, B, rfl, a, rfl⟩ | ⟨rfl | ⟨fr, rfl⟩, rfl⟩
  · have e : PV.old (.fptr fr [tab f1 F B 0] 0) = .fptr false [tab false F B 0] 0 := by simp [PV.old, olds, old_tab]
    try simp only [c115, r115_0, r115_1, r115_2, r115_3, e, pm, pmW, pmB, ft, ↓reduceIte, reduceCtorEq, nE, nA, nM, nD, nL, iL, iT, iE, iN, iC]
    try simp only [tab, pm, pmW, pmB, ft, ↓reduceIte, reduceCtorEq, nE, nA, nM, nD, nL, iL, iT, iE, iN, iC]
    refine Get _ _ _ _ _ a _ _ ?_
    try simp only [pm, pmW, pmB, ft, ↓reduceIte, reduceCtorEq, nE, nA, nM, nD, nL, iL, iT, iE, iN, iC]
    exact finK_le (Heap.le_refl _) k
  · try simp only [c115, r115_0, r115_1, r115_2, r115_3, pm, pmW, pmB, ft, ↓reduceIte, reduceCtorEq, nE, nA, nM, nD, nL, iL, iT, iE, iN, iC]
    exact finK_le (Heap.le_refl _) k
  · try simp only [c115, r115_0, r115_1, r115_2, r115_3, pm, pmW, pmB, ft, ↓reduceIte, reduceCtorEq, nE, nA, nM, nD, nL, iL, iT, iE, iN, iC]
    exact finK_le (Heap.le_refl _) k
def befT (f : Int → Int) (a b : Int) : Bool := decide (f b = 0) || decide (f a ≤ f b)
theorem before (v : PV) (f : Int → Int) (hv : CO v f) (a b : Int) (h : Heap) {K : PV → Heap → Prop} (k : K (.bool (befT f a b)) h) : CanP Tryz.prog 129 [v, .int .i64 a, .int .i64 b] h K := by
  refine e129 rfl ?_
  have hv' := hv.old
  unfold befT at k
  try simp only [c129, r129_0, r129_1, r129_2, pm, pmW, pmB, ft, ↓reduceIte, reduceCtorEq, nE, nA, nM, nD, nL, iL, iT, iE, iN, iC]
  refine Of _ _ hv' _ _ ?_
  try simp only [pm, pmW, pmB, ft, ↓reduceIte, reduceCtorEq, nE, nA, nM, nD, nL, iL, iT, iE, iN, iC]
  by_cases h1 : f b = 0
  · rw [decide_eq_true h1, Bool.true_or] at k
    try simp only [h1, pm, pmW, pmB, ft, ↓reduceIte, reduceCtorEq, nE, nA, nM, nD, nL, iL, iT, iE, iN, iC]
    exact finK_le (Heap.le_refl _) k
  · rw [decide_eq_false h1, Bool.false_or] at k
    try simp only [h1, pm, pmW, pmB, ft, ↓reduceIte, reduceCtorEq, nE, nA, nM, nD, nL, iL, iT, iE, iN, iC]
    refine Of _ _ hv' _ _ ?_
    try simp only [pm, pmW, pmB, ft, ↓reduceIte, reduceCtorEq, nE, nA, nM, nD, nL, iL, iT, iE, iN, iC]
    exact finK_le (Heap.le_refl _) k
/-- Do marks stand in their order? -/
def ordB (f : Int → Int) : List Int → Bool
  | a :: b :: l => befT f a b && ordB f (b :: l)
  | _ => true
theorem Ordered (v : PV) (f : Int → Int) (hv : CO v f) (fr : Bool) (X : List Int) (hl : X.length ≤ 1000000) (h : Heap) {K : PV → Heap → Prop} (k : K (.bool (ordB f X)) h) : CanP Tryz.prog 94 [v, .list fr 1 X.length (X.map (.int .i64))] h K := by
  refine e94 rfl ?_
  have hv' := hv.old
  try simp only [c94, r94_0, r94_1, r94_2, r94_3, r94_4, r94_5, r94_6, pm, pmW, pmB, ft, ↓reduceIte, reduceCtorEq, nE, nA, nM, nD, nL, iL, iT, iE, iN, iC]
  generalize v.old = v2 at *
  refine pwp_fall (fun m σ h' => ∃ i : Nat, h' = h ∧ m = X.length - i ∧ 1 ≤ i ∧ (i ≤ X.length ∨ i = 1) ∧ ordB f X = ordB f (X.drop (i - 1)) ∧ σ 0 = v2 ∧ σ 1 = .list false 1 X.length (X.map (.int .i64)) ∧ σ 5 = .int .i64 i) (X.length - 1) ⟨1, rfl, rfl, by omega, .inr rfl, rfl, rfl, rfl, rfl⟩ ?_
  rintro m σ h' K' ⟨i, rfl, rfl, h1, h2, hp, s0, s1, s5⟩ next
  try simp only [s1, s5, cdK_dec, pm, pmW, pmB, ft, ↓reduceIte, reduceCtorEq, nE, nA, nM, nD, nL, iL, iT, iE, iN, iC]
  refine ⟨fun hlt => ?_, fun hge => ?_⟩
  · have hx := getm (.int .i64) X hlt
    have hy := getm (.int .i64) X (i := i - 1) (by omega)
    have e : i - 1 + 1 = i := by omega
    have hd : ordB f (X.drop (i - 1)) = (befT f (X.getD (i - 1) default) (X.getD i default) && ordB f (X.drop i)) := by
      rw [drop_getD X (i := i - 1) (by omega), e, drop_getD X hlt]; rfl
    rw [hd] at hp
    generalize X.getD i default = b at *
    generalize X.getD (i - 1) default = a at *
    have w1 : IntKind.i64.wrap ((i : Int) - 1) = ((i - 1 : Nat) : Int) := by rw [wrap_in (by omega) (by omega)]; omega
    have w2 : IntKind.i64.wrap ((i : Int) + 1) = ((i + 1 : Nat) : Int) := by rw [wrap_in (by omega) (by omega)]; omega
    have k1 : i - 1 < X.length := by omega
    try simp only [s0, s1, s5, hx, hy, hlt, w1, k1, pm, pmW, pmB, ft, ↓reduceIte, reduceCtorEq, nE, nA, nM, nD, nL, iL, iT, iE, iN, iC]
    refine ⟨_, before _ _ hv' _ _ _ ⟨rfl, rfl⟩, ?_⟩
    cases hb : befT f a b
    · rw [hb, Bool.false_and] at hp
      rw [hp] at k
      try simp only [pm, pmW, pmB, ft, ↓reduceIte, reduceCtorEq, nE, nA, nM, nD, nL, iL, iT, iE, iN, iC]
      exact finK_le (Heap.le_refl _) k
    · rw [hb, Bool.true_and] at hp
      try simp only [s5, w2, pm, pmW, pmB, ft, ↓reduceIte, reduceCtorEq, nE, nA, nM, nD, nL, iL, iT, iE, iN, iC]
      exact next (X.length - (i + 1)) _ _ (by omega) ⟨i + 1, rfl, rfl, by omega, .inl (by omega), by rw [hp]; rfl, by simp [put, s0], by simp [put, s1], by simp [put]⟩
  · have : ordB f (X.drop (i - 1)) = true := by
      rcases hd : X.drop (i - 1) with _ | ⟨a, _ | ⟨b, l⟩⟩
      · rfl
      · rfl
      · have := congrArg List.length hd
        simp at this; omega
    rw [hp, this] at k
    try simp only [pm, pmW, pmB, ft, ↓reduceIte, reduceCtorEq, nE, nA, nM, nD, nL, iL, iT, iE, iN, iC]
    exact finK_le (Heap.le_refl _) k
/-! ### What stands in each place -/
def rng (a b : Nat) : List Int := (List.range' a (b - a)).map Int.ofNat
theorem rng_len (a b : Nat) : (rng a b).length = b - a := by simp [rng]
theorem rng_succ {a b : Nat} (h : a ≤ b) : rng a (b + 1) = rng a b ++ [(b : Int)] := by
  unfold rng
  rw [show b + 1 - a = (b - a) + 1 by omega, List.range'_concat]
  simp; omega
theorem rng_cut {a b n : Nat} (h : a ≤ b) (h2 : b ≤ n) : rng a n = rng a b ++ rng b n := by
  unfold rng
  rw [show n - a = (b - a) + (n - b) by omega, ← List.range'_append_1, List.map_append]
  congr 2; congr 1; omega
theorem rng_self (a : Nat) : rng a a = [] := by simp [rng]
theorem rng_mem {a b : Nat} {x : Int} (h : x ∈ rng a b) : ∃ i : Nat, x = i ∧ a ≤ i ∧ i < b := by
  unfold rng at h
  obtain ⟨i, hi, rfl⟩ := List.mem_map.1 h
  have := List.mem_range'_1.1 hi
  exact ⟨i, rfl, by omega, by omega⟩
/-- A place's class. -/
def keyP (f : Int → Int) (X : List Int) (p : Int) : Int := f (X.getD p.toNat default)
/-- What lies fixed ahead of a place, and where what may move begins. -/
def fixP (f : Int → Int) (X : List Int) : Nat → List Int × Nat
  | 0 => ([], 0)
  | i + 1 => if f (X.getD i default) = 0 then ((fixP f X i).1 ++ srt (keyP f X) (rng (fixP f X i).2 i) ++ [(i : Int)], i + 1) else fixP f X i
theorem fixP_len (f : Int → Int) (X : List Int) : ∀ i, (fixP f X i).1.length = (fixP f X i).2 ∧ (fixP f X i).2 ≤ i
  | 0 => ⟨rfl, Nat.le_refl _⟩
  | i + 1 => by
    have ih := fixP_len f X i
    unfold fixP
    split
    · simp [srt_len, rng_len]; omega
    · omega
theorem fixP_mem (f : Int → Int) (X : List Int) : ∀ i, ∀ x ∈ (fixP f X i).1, 0 ≤ x ∧ x < i
  | 0, x, h => by simp [fixP] at h
  | i + 1, x, h => by
    have ih := fixP_mem f X i
    have hl := fixP_len f X i
    unfold fixP at h
    split at h
    · simp only [List.mem_append, List.mem_singleton] at h
      rcases h with (h | h) | h
      · have := ih x h; omega
      · obtain ⟨j, rfl, _, _⟩ := rng_mem ((srt_fil _).mem.2 h); omega
      · omega
    · have := ih x h; omega
def placeT (f : Int → Int) (X : List Int) : List Int := (fixP f X X.length).1 ++ srt (keyP f X) (rng (fixP f X X.length).2 X.length)
theorem placeT_len (f : Int → Int) (X : List Int) : (placeT f X).length = X.length := by
  have := fixP_len f X X.length
  unfold placeT; simp [srt_len, rng_len]; omega
theorem placeT_mem (f : Int → Int) (X : List Int) : ∀ x ∈ placeT f X, 0 ≤ x ∧ x < X.length := fun x h => by
  unfold placeT at h
  rcases List.mem_append.1 h with h | h
  · exact fixP_mem f X _ x h
  · obtain ⟨j, rfl, _, _⟩ := rng_mem ((srt_fil _).mem.2 h); omega
theorem cmpP (v : PV) (f : Int → Int) (hv : CO v f) (hv2 : v.old = v) (f1 f2 : Bool) (X : List Int) (hl : X.length ≤ 1000000) : CmpIn 114 [] [.fptr false [v] 0, .fptr false [.list false 1 X.length (X.map (.int .i64))] 0] (fun a b => keyP f X a - keyP f X b) (keyP f X) (fun a => 0 ≤ a ∧ a < X.length) :=
  ⟨rfl, by simp only [olds, PV.old, hv2, olds_ints], fun x y h K okx oky k => by
    refine e114 rfl ?_
    have hx := getm (.int .i64) X (i := x.toNat) (by omega)
    have hy := getm (.int .i64) X (i := y.toNat) (by omega)
    have r1 := hv.rng (X.getD x.toNat default)
    have r2 := hv.rng (X.getD y.toNat default)
    unfold keyP at k
    generalize X.getD x.toNat default = p at *
    generalize X.getD y.toNat default = q at *
    have hw : IntKind.i64.wrap (f p - f q) = f p - f q := wrap_in (by omega) (by omega)
    have x0 := okx.1
    have x1 := okx.2
    have y0 := oky.1
    have y1 := oky.2
    try simp only [c114, r114_0, r114_1, hv2, hx, hy, x0, x1, y0, y1, pm, pmW, pmB, ft, ↓reduceIte, reduceCtorEq, nE, nA, nM, nD, nL, iL, iT, iE, iN, iC]
    refine ⟨_, Of _ _ hv _ _ ⟨rfl, rfl⟩, ?_⟩
    try simp only [hy, y0, y1, pm, pmW, pmB, ft, ↓reduceIte, reduceCtorEq, nE, nA, nM, nD, nL, iL, iT, iE, iN, iC]
    refine ⟨_, Of _ _ hv _ _ ⟨rfl, rfl⟩, ?_⟩
    try simp only [hw, pm, pmW, pmB, ft, ↓reduceIte, reduceCtorEq, nE, nA, nM, nD, nL, iL, iT, iE, iN, iC]
    exact finK_le (Heap.le_refl _) k, fun x y _ _ => ⟨fun h => by omega, fun h => by omega⟩⟩
theorem srtP (v : PV) (f : Int → Int) (hv : CO v f) (hv2 : v.old = v) (X : List Int) (hl : X.length ≤ 1000000) (b : Nat) (P A Q : List Int) (lo n : Nat) (hlo : P.length = lo) (hN : A.length = n) (hn : n ≤ X.length) (okA : ∀ a ∈ A, 0 ≤ a ∧ a < X.length) (h : Heap) (hb : h.f b = some (rowC en1 (P.map (.int .i64)) (Q.map (.int .i64)) A))
    {K : PV → Heap → Prop} (k : K (.tup []) (h.set b (rowC en1 (P.map (.int .i64)) (Q.map (.int .i64)) (srt (keyP f X) A)))) :
    CanP Tryz.prog 113 [.buf b 1 lo n, .fn 114 [] [.fptr false [v] 0, .fptr false [.list false 1 X.length (X.map (.int .i64))] 0]] h K := by
  have hl2 : (P.map (PV.int .i64)).length = lo := by simp [hlo]
  subst hl2
  exact SortStableIn (P.map (.int .i64)) (Q.map (.int .i64)) b _ [] _ [] [.fptr false [v] 0, .fptr false [.list false 1 X.length (X.map (.int .i64))] 0] rfl (by simp only [olds, PV.old, hv2, olds_ints]) _ (keyP f X) _ (cmpP v f hv hv2 false false X hl) A n hN okA (by omega) h hb k
/-- A part put in order. -/
theorem Places1 (v : PV) (f : Int → Int) (hv : CO v f) (hv2 : v.old = v) (X : List Int) (hl : X.length ≤ 1000000) (b : Nat) (P A Q : List Int) (lo i : Nat) (hlo : lo = P.length) (hi : i = P.length + A.length) (hn : P.length + A.length + Q.length = X.length) (okA : ∀ a ∈ A, 0 ≤ a ∧ a < X.length) (h : Heap) (hb : h.f b = some ((P ++ A ++ Q).map (.int .i64)))
    {K : PV → Heap → Prop} (k : K (.tup []) (h.set b ((P ++ srt (keyP f X) A ++ Q).map (.int .i64)))) :
    CanP Tryz.prog 112 [.int .i64 lo, .int .i64 i, .fptr false [.buf b 1 0 X.length] 0, .fptr false [v] 0, .fptr false [.list false 1 X.length (X.map (.int .i64))] 0] h K := by
  refine e112 rfl ?_
  have e1 : ∀ l : List Int, l.map (PV.int .i64) = l.flatMap en1 := fun l => by
    induction l with
    | nil => rfl
    | cons x l ih => simp [en1] at ih ⊢; exact ih
  have rw1 : ∀ B : List Int, (P ++ B ++ Q).map (PV.int .i64) = rowC en1 (P.map (.int .i64)) (Q.map (.int .i64)) B := fun B => by simp [rowC, e1]
  by_cases hA : A = []
  · subst hA
    have hs : srt (keyP f X) [] = [] := rfl
    rw [hs, Heap.set_self hb] at k
    simp only [List.length_nil, Nat.add_zero] at hi
    have : i = lo := by omega
    subst this
    by_cases h0 : i = 0
    · subst h0
      have P0 : P = [] := List.length_eq_zero_iff.1 hlo.symm
      subst P0
      try simp only [c112, r112_0, hv2, slcB_00, pm, pmW, pmB, ft, ↓reduceIte, reduceCtorEq, nE, nA, nM, nD, nL, iL, iT, iE, iN, iC]
      refine srtP v f hv hv2 X hl b [] [] Q 0 0 rfl rfl (by omega) (by simp) _ (by rw [hb, rw1]) ?_
      try simp only [pm, pmW, pmB, ft, ↓reduceIte, reduceCtorEq, nE, nA, nM, nD, nL, iL, iT, iE, iN, iC]
      have e := Heap.set_self hb
      rw [rw1] at e
      rw [show srt (keyP f X) [] = [] from rfl]
      simp only [List.map_nil] at e
      rw [e]
      exact finK_rf k
    · try simp only [c112, r112_0, hv2, slcB_none (show 0 < i by omega) (show i ≤ X.length by omega), pm, pmW, pmB, ft, ↓reduceIte, reduceCtorEq, nE, nA, nM, nD, nL, iL, iT, iE, iN, iC]
      refine SortNoneIn _ _ _ _ _ ?_
      try simp only [pm, pmW, pmB, ft, ↓reduceIte, reduceCtorEq, nE, nA, nM, nD, nL, iL, iT, iE, iN, iC]
      exact finK_rf k
  · have lA : 0 < A.length := List.length_pos_iff.2 hA
    rw [rw1] at hb
    rw [rw1] at k
    by_cases h0 : lo = 0
    · subst h0
      have P0 : P = [] := List.length_eq_zero_iff.1 hlo.symm
      subst P0
      have hi' : i = A.length := by simpa using hi
      subst hi'
      try simp only [c112, r112_0, hv2, slcB_both0 (show A.length ≤ X.length by simp at hn; omega), pm, pmW, pmB, ft, ↓reduceIte, reduceCtorEq, nE, nA, nM, nD, nL, iL, iT, iE, iN, iC]
      refine srtP v f hv hv2 X hl b [] A Q 0 A.length rfl rfl (by simp at hn; omega) okA _ hb ?_
      try simp only [pm, pmW, pmB, ft, ↓reduceIte, reduceCtorEq, nE, nA, nM, nD, nL, iL, iT, iE, iN, iC]
      exact finK_rf k
    · try simp only [c112, r112_0, hv2, slcB_both (show 0 < lo by omega) (show lo < i by omega) (show i ≤ X.length by omega), pm, pmW, pmB, ft, ↓reduceIte, reduceCtorEq, nE, nA, nM, nD, nL, iL, iT, iE, iN, iC]
      refine srtP v f hv hv2 X hl b P A Q _ _ (by omega) (by omega) (by omega) okA _ hb ?_
      try simp only [pm, pmW, pmB, ft, ↓reduceIte, reduceCtorEq, nE, nA, nM, nD, nL, iL, iT, iE, iN, iC]
      exact finK_rf k
end Go.Proofs.YtcgaphmndnmfdaaGreat

/-
  Combining classes, on: what stands in each place.
  Conditions: none but those that each sentence tells.
-/
namespace Go.Proofs.YtcgaphmndnmfdaaGreat
open Go.Pm
open Nat renaming reduceEqDiff → nE, reduceAdd → nA, reduceMul → nM, reduceLeDiff → nD, reduceLT → nL
open Int renaming reduceLE → iL, reduceLT → iT, reduceEq → iE, reduceToNat → iN, cast_ofNat_Int → iC
set_option maxRecDepth 100000
set_option linter.unusedSimpArgs false
set_option linter.unusedVariables false

theorem rng_cons {a n : Nat} (h : a < n) : rng a n = (a : Int) :: rng (a + 1) n := by
  rw [rng_cut (b := a + 1) (by omega) (by omega), rng_succ (Nat.le_refl a), rng_self]; rfl
theorem rng_get {n i : Nat} (h : i < n) : (rng 0 n).getD i default = (i : Int) := by
  unfold rng
  rw [List.getD, List.getElem?_map, Nat.sub_zero, List.getElem?_range' h]
  simp
/-- How far it is done. -/
def rowI (f : Int → Int) (X : List Int) (i : Nat) : List Int := (fixP f X i).1 ++ rng (fixP f X i).2 X.length
theorem rowI_z (f : Int → Int) (X : List Int) {i : Nat} (hi : i < X.length) (hz : f (X.getD i default) = 0) : rowI f X (i + 1) = (fixP f X i).1 ++ srt (keyP f X) (rng (fixP f X i).2 i) ++ rng i X.length := by
  unfold rowI
  rw [show fixP f X (i + 1) = ((fixP f X i).1 ++ srt (keyP f X) (rng (fixP f X i).2 i) ++ [(i : Int)], i + 1) by rw [fixP, if_pos hz]]
  rw [rng_cons hi]; simp
theorem rowI_nz (f : Int → Int) (X : List Int) {i : Nat} (hz : f (X.getD i default) ≠ 0) : fixP f X (i + 1) = fixP f X i := by rw [fixP, if_neg hz]
theorem cccRows (v : PV) (f : Int → Int) (hv : CO v f) (hv2 : v.old = v) (X : List Int) (hl : X.length ≤ 1000000) (b : Nat) (h : Heap) (hb : h.f b = some ((rng 0 X.length).map (.int .i64)))
    {K : PV → Heap → Prop} (k : K (.tup []) (h.set b ((placeT f X).map (.int .i64)))) :
    CanP Tryz.prog 111 [v, .list false 1 X.length (X.map (.int .i64)), .fn 112 [] [.fptr false [.buf b 1 0 X.length] 0, .fptr true [v] 0, .fptr true [.list false 1 X.length (X.map (.int .i64))] 0]] h K := by
  refine e111 rfl ?_
  try simp only [c111, r111_0, r111_1, r111_2, r111_3, r111_4, r111_5, r111_6, r111_7, r111_8, hv2, pm, pmW, pmB, ft, ↓reduceIte, reduceCtorEq, nE, nA, nM, nD, nL, iL, iT, iE, iN, iC]
  refine pwp_up X.length (fun i σ h' => h' = h.set b ((rowI f X i).map (.int .i64)) ∧ σ 0 = v ∧ σ 1 = .list false 1 X.length (X.map (.int .i64)) ∧ σ 2 = .fn 112 [] [.fptr false [.buf b 1 0 X.length] 0, .fptr false [v] 0, .fptr false [.list false 1 X.length (X.map (.int .i64))] 0] ∧ σ 6 = .int .i64 (fixP f X i).2 ∧ σ 9 = .list false 1 X.length (X.map (.int .i64)) ∧ σ 10 = .int .i64 X.length ∧ σ 11 = .int .i64 i) ?_ ?_
  · refine ⟨?_, rfl, rfl, rfl, rfl, rfl, rfl, rfl⟩
    exact (Heap.set_self hb).symm
  rintro i σ h' K' hi ⟨rfl, s0, s1, s2, s6, s9, s10, s11⟩ next
  have hlen := fixP_len f X i
  rcases Nat.lt_or_ge i X.length with hlt | hge
  · have hx := getm (.int .i64) X hlt
    have hw : IntKind.i64.wrap ((i : Int) + 1) = (i : Int) + 1 := wrap_in (by omega) (by omega)
    try simp only [s0, s9, s10, s11, hx, hlt, pm, pmW, pmB, ft, ↓reduceIte, reduceCtorEq, nE, nA, nM, nD, nL, iL, iT, iE, iN, iC]
    refine Of _ _ hv _ _ ?_
    by_cases hz : f (X.getD i default) = 0
    · try simp only [hz, s2, s6, pm, pmW, pmB, ft, ↓reduceIte, reduceCtorEq, nE, nA, nM, nD, nL, iL, iT, iE, iN, iC]
      refine Places1 v f hv hv2 X hl b (fixP f X i).1 (rng (fixP f X i).2 i) (rng i X.length) _ _ hlen.1.symm (by rw [rng_len]; omega) (by rw [rng_len, rng_len]; omega) (fun a ha => by obtain ⟨j, rfl, _, _⟩ := rng_mem ha; omega) _ (by rw [Heap.set_same, List.append_assoc, ← rng_cut hlen.2 hi]; rfl) ?_
      try simp only [s11, hw, pm, pmW, pmB, ft, ↓reduceIte, reduceCtorEq, nE, nA, nM, nD, nL, iL, iT, iE, iN, iC]
      rw [← rowI_z f X hlt hz]
      exact next hlt _ _ ⟨rfl, by simp [put, s0], by simp [put, s1], by simp [put, s2], by simp only [fixP, if_pos hz]; simp [put], by simp [put, s9], by simp [put, s10], by simp [put]⟩
    · try simp only [hz, s11, hw, pm, pmW, pmB, ft, ↓reduceIte, reduceCtorEq, nE, nA, nM, nD, nL, iL, iT, iE, iN, iC]
      refine next hlt _ _ ⟨by rw [rowI, rowI, rowI_nz f X hz], by simp [put, s0], by simp [put, s1], by simp [put, s2], by simp [put, s6, rowI_nz f X hz], by simp [put, s9], by simp [put, s10], by simp [put]⟩
  · have e : i = X.length := by omega
    subst e
    have hnl := Nat.lt_irrefl X.length
    try simp only [s10, s11, s2, s6, s1, hnl, pm, pmW, pmB, ft, ↓reduceIte, reduceCtorEq, nE, nA, nM, nD, nL, iL, iT, iE, iN, iC]
    have q1 : X.length = (fixP f X X.length).1.length + (rng (fixP f X X.length).2 X.length).length := by rw [rng_len]; omega
    refine Places1 v f hv hv2 X hl b (fixP f X X.length).1 (rng (fixP f X X.length).2 X.length) [] _ _ hlen.1.symm q1 q1.symm (fun a ha => by obtain ⟨j, rfl, _, _⟩ := rng_mem ha; omega) (h.set b ((rowI f X X.length).map (.int .i64))) (by rw [Heap.set_same, List.append_nil]; rfl) ?_
    try simp only [pm, pmW, pmB, ft, ↓reduceIte, reduceCtorEq, nE, nA, nM, nD, nL, iL, iT, iE, iN, iC]
    exact finK_rf k
theorem Places (v : PV) (f : Int → Int) (hv : CO v f) (fr : Bool) (X : List Int) (hl : X.length ≤ 1000000) (h : Heap)
    {K : PV → Heap → Prop} (k : K (.list true 1 X.length ((placeT f X).map (.int .i64))) h) :
    CanP Tryz.prog 69 [v, .list fr 1 X.length (X.map (.int .i64))] h K := by
  refine e69 rfl ?_
  have hv' := hv.old
  have hv2 := hv.old2
  try simp only [c69, r69_0, r69_1, r69_2, r69_3, r69_4, r69_5, r69_6, r69_7, r69_8, hv'.flat, pm, pmW, pmB, ft, ↓reduceIte, reduceCtorEq, nE, nA, nM, nD, nL, iL, iT, iE, iN, iC]
  refine ⟨by omega, by omega, by omega, fun b hb b1 hb1 => ?_⟩
  have hne : b1 ≠ b := fun e => by rw [e, Heap.set_same] at hb1; cases hb1
  refine pwp_up X.length (fun i σ h' => h' = h.set b (((rng 0 X.length).take i).map (PV.int .i64) ++ List.replicate ((rng 0 X.length).length - i) (PV.int .i64 0)) ∧ σ 2 = .fptr true [v.old] 0 ∧ σ 3 = .fptr true [.list false 1 X.length (X.map (.int .i64))] 0 ∧ σ 5 = .fptr false [.buf b 1 0 X.length] 0 ∧ σ 11 = .int .i64 X.length ∧ σ 12 = .int .i64 i) ?_ ?_
  · refine ⟨?_, rfl, rfl, rfl, rfl, rfl⟩
    rw [rep_map (PV.int .i64) (0 : Int), rng_len, List.take_zero, List.map_nil, List.nil_append, Nat.sub_zero, Nat.sub_zero, List.map_replicate]
    exact Heap.kill_none (by rw [Heap.set_ne _ _ hne] at hb1 ⊢; exact hb1)
  rintro i σ h' K' hi ⟨rfl, s2, s3, s5, s11, s12⟩ next
  rcases Nat.lt_or_ge i X.length with hlt | hge
  · have hw : IntKind.i64.wrap ((i : Int) + 1) = (i : Int) + 1 := wrap_in (by omega) (by omega)
    have hf := fill_set (PV.int .i64) (PV.int .i64 0) (rng 0 X.length) (i := i) (by rw [rng_len]; omega)
    rw [rng_get (by omega)] at hf
    have hlen : i < (((rng 0 X.length).take i).map (PV.int .i64) ++ List.replicate ((rng 0 X.length).length - i) (PV.int .i64 0)).length := by simp [rng_len]; omega
    try simp only [s5, s11, s12, hlt, hw, Heap.set_same, pm, pmW, pmB, ft, ↓reduceIte, reduceCtorEq, nE, nA, nM, nD, nL, iL, iT, iE, iN, iC]
    refine ⟨hlen, next hlt _ _ ⟨?_, by simp [put, s2], by simp [put, s3], by simp [put, s5], by simp [put, s11], by simp [put]⟩⟩
    rw [wr_one hlen, hf]
  · have e : i = X.length := by omega
    subst e
    have e2 : ((rng 0 X.length).take X.length).map (PV.int .i64) ++ List.replicate ((rng 0 X.length).length - X.length) (PV.int .i64 0) = (rng 0 X.length).map (PV.int .i64) := by
      rw [rng_len, Nat.sub_zero, Nat.sub_self, List.take_of_length_le (by rw [rng_len]; omega)]; simp
    rw [e2]
    have hnl := Nat.lt_irrefl X.length
    try simp only [s2, s3, s5, s11, s12, hnl, hv2, pm, pmW, pmB, ft, ↓reduceIte, reduceCtorEq, nE, nA, nM, nD, nL, iL, iT, iE, iN, iC]
    refine cccRows v.old f hv' hv2 X hl b _ (Heap.set_same _ _ _) ?_
    try simp only [s5, pm, pmW, pmB, ft, ↓reduceIte, reduceCtorEq, nE, nA, nM, nD, nL, iL, iT, iE, iN, iC]
    have a : Acc h (h.set b ((placeT f X).map (.int .i64))) (.buf b 1 0 X.length) 1 X.length ((placeT f X).map (.int .i64)) := Acc.buf hb (Heap.set_same _ _ _) (by simp [placeT_len])
    refine a.fin (Heap.le_set (Heap.le_refl _) hb) ?_
    rw [olds_ints]; exact k
/-- The codes so. -/
def ordT (f : Int → Int) (X : List Int) : List Int := (placeT f X).map (fun p => X.getD p.toNat default)
theorem placeT_at (f : Int → Int) (X : List Int) {i : Nat} (hi : i < X.length) : 0 ≤ (placeT f X).getD i default ∧ (placeT f X).getD i default < X.length := by
  have hl := placeT_len f X
  have h2 : i < (placeT f X).length := by omega
  have e : (placeT f X).getD i default = (placeT f X)[i] := by simp [List.getD, h2]
  rw [e]
  exact placeT_mem f X _ (List.getElem_mem h2)
theorem Order (v : PV) (f : Int → Int) (hv : CO v f) (fr : Bool) (X : List Int) (hl : X.length ≤ 1000000) (h : Heap)
    {K : PV → Heap → Prop} (k : K (.list true 1 X.length ((ordT f X).map (.int .i64))) h) :
    CanP Tryz.prog 32 [v, .list fr 1 X.length (X.map (.int .i64))] h K := by
  refine e32 rfl ?_
  have hv' := hv.old
  try simp only [c32, r32_0, r32_1, r32_2, r32_3, r32_4, r32_5, r32_6, r32_7, pm, pmW, pmB, ft, ↓reduceIte, reduceCtorEq, nE, nA, nM, nD, nL, iL, iT, iE, iN, iC]
  refine ⟨by omega, by omega, fun b hb => ?_⟩
  refine Places _ f hv' false X hl _ ?_
  try simp only [pm, pmW, pmB, ft, ↓reduceIte, reduceCtorEq, nE, nA, nM, nD, nL, iL, iT, iE, iN, iC]
  have hpl := placeT_len f X
  refine pwp_up X.length (fun i σ h' => (∃ u, Acc h h' u 1 i (((placeT f X).take i).map (fun p => PV.int .i64 (X.getD p.toNat default))) ∧ σ 5 = u) ∧ h.le h' ∧ σ 1 = .list false 1 X.length (X.map (.int .i64)) ∧ σ 13 = .list true 1 X.length ((placeT f X).map (.int .i64)) ∧ σ 14 = .int .i64 X.length ∧ σ 15 = .int .i64 i) ?_ ?_
  · exact ⟨⟨_, Acc.buf hb (Heap.set_same _ _ _) rfl, rfl⟩, Heap.le_set (Heap.le_refl _) hb, rfl, rfl, rfl, rfl⟩
  rintro i σ h' K' hi ⟨⟨u, a, s5⟩, lh, s1, s13, s14, s15⟩ next
  rcases Nat.lt_or_ge i X.length with hlt | hge
  · have hw : IntKind.i64.wrap ((i : Int) + 1) = (i : Int) + 1 := wrap_in (by omega) (by omega)
    have hx := getm (.int .i64) (placeT f X) (i := i) (by omega)
    have hp := placeT_at f X hlt
    have htk := take_succ_map (fun p => PV.int .i64 (X.getD p.toNat default)) (placeT f X) (i := i) (by omega)
    generalize (placeT f X).getD i default = p at *
    have hy := getm (.int .i64) X (i := p.toNat) (by omega)
    have p0 := hp.1
    have p1 := hp.2
    try simp only [s1, s5, s13, s14, s15, hlt, hw, hx, hy, p0, p1, pm, pmW, pmB, ft, ↓reduceIte, reduceCtorEq, nE, nA, nM, nD, nL, iL, iT, iE, iN, iC]
    refine a.app lh (by decide) rfl (by omega) (by simp only [maxLen]; omega) fun v' h3 a' l' sd => ?_
    try simp only [s15, hw, pm, pmW, pmB, ft, ↓reduceIte, reduceCtorEq, nE, nA, nM, nD, nL, iL, iT, iE, iN, iC]
    refine next hlt _ _ ⟨⟨_, ?_, rfl⟩, l', by simp [put, s1], by simp [put, s13], by simp [put, s14], by simp [put]⟩
    rw [htk]
    exact a'
  · have e : i = X.length := by omega
    subst e
    have hnl := Nat.lt_irrefl X.length
    try simp only [s5, s14, s15, hnl, pm, pmW, pmB, ft, ↓reduceIte, reduceCtorEq, nE, nA, nM, nD, nL, iL, iT, iE, iN, iC]
    refine a.fin lh ?_
    rw [List.take_of_length_le (by omega)]
    have : ((placeT f X).map (fun p => PV.int .i64 (X.getD p.toNat default))) = (ordT f X).map (.int .i64) := by simp [ordT]
    rw [this, olds_ints]; exact k
end Go.Proofs.YtcgaphmndnmfdaaGreat

/-
  Combining classes: the document's answer.
  Conditions: none but those that each sentence tells.
-/
namespace Go.Proofs.YtcgaphmndnmfdaaGreat
open Go.Pm
open Nat renaming reduceEqDiff → nE, reduceAdd → nA, reduceMul → nM, reduceLeDiff → nD, reduceLT → nL
open Int renaming reduceLE → iL, reduceLT → iT, reduceEq → iE, reduceToNat → iN, cast_ofNat_Int → iC
set_option maxRecDepth 100000
set_option linter.unusedSimpArgs false
set_option linter.unusedVariables false

theorem OfR (c : Int) (h : Heap) {K : PV → Heap → Prop} (k : K (.int .i64 (cccT c)) h) : CanP Tryz.prog 63 [.int .i64 c] h K := by
  refine e63 rfl ?_
  try simp only [c63, r63_0, r63_1, pm, pmW, pmB, ft, ↓reduceIte, reduceCtorEq, nE, nA, nM, nD, nL, iL, iT, iE, iN, iC]
  refine Combining _ ?_
  try simp only [pm, pmW, pmB, ft, ↓reduceIte, reduceCtorEq, nE, nA, nM, nD, nL, iL, iT, iE, iN, iC]
  refine GetR6 _ _ (by decide) _ _ _ ?_
  rw [cccT_eq]
  try simp only [pm, pmW, pmB, ft, ↓reduceIte, reduceCtorEq, nE, nA, nM, nD, nL, iL, iT, iE, iN, iC]
  exact finK_le (Heap.le_refl _) k
theorem befT_ref (a b : Int) : befT cccT a b = !(decide (0 < cccT b) && decide (cccT b < cccT a)) := by
  have r1 := ccc_in a
  have r2 := ccc_in b
  unfold befT
  by_cases h : cccT b = 0
  · simp [h]
  · have : 0 < cccT b := by omega
    simp [h, this, ← decide_not, Int.not_lt]
/-! ### One behind the other -/
def rowJ (f : Int → Int) (X : List Int) (i : Nat) : List Int := (fixP f X i).1 ++ srt (keyP f X) (rng (fixP f X i).2 i)
theorem rowJ_len (f : Int → Int) (X : List Int) (i : Nat) : (rowJ f X i).length = i := by
  have := fixP_len f X i
  simp [rowJ, srt_len, rng_len]; omega
theorem rowJ_mem (f : Int → Int) (X : List Int) (i : Nat) : ∀ x ∈ rowJ f X i, 0 ≤ x ∧ x < i := fun x h => by
  unfold rowJ at h
  rcases List.mem_append.1 h with h | h
  · exact fixP_mem f X _ x h
  · obtain ⟨j, rfl, _, _⟩ := rng_mem ((srt_fil _).mem.2 h); omega
theorem rowJ_at (f : Int → Int) (X : List Int) {i k : Nat} (hk : k < i) : 0 ≤ (rowJ f X i).getD k default ∧ (rowJ f X i).getD k default < i :=
  rowJ_mem f X i _ (get_mem _ (by rw [rowJ_len]; exact hk))
theorem fixP_last (f : Int → Int) (X : List Int) : ∀ i, (fixP f X i).2 = 0 ∨ keyP f X ((fixP f X i).1.getD ((fixP f X i).2 - 1) default) = 0
  | 0 => .inl rfl
  | i + 1 => by
    have ih := fixP_last f X i
    have hl := fixP_len f X i
    by_cases hz : f (X.getD i default) = 0
    · refine .inr ?_
      have hs := rowJ_len f X i
      unfold rowJ at hs
      simp only [fixP, if_pos hz, Nat.add_sub_cancel]
      generalize (fixP f X i).1 ++ srt (keyP f X) (rng (fixP f X i).2 i) = A at *
      subst hs
      rw [get_mid]
      exact hz
    · rw [rowI_nz f X hz]; exact ih
theorem rowJ_z (f : Int → Int) (X : List Int) {i : Nat} (hz : f (X.getD i default) = 0) : rowJ f X (i + 1) = rowJ f X i ++ [(i : Int)] := by
  unfold rowJ
  simp only [fixP, if_pos hz, rng_self]
  simp [srt]
theorem rowJ_ins (f : Int → Int) (X : List Int) {i k : Nat} (hp : 0 < f (X.getD i default)) (hk : k ≤ i) (h1 : ∀ p, k ≤ p → p < i → f (X.getD i default) < keyP f X ((rowJ f X i).getD p default))
    (h2 : k = 0 ∨ ¬ f (X.getD i default) < keyP f X ((rowJ f X i).getD (k - 1) default)) : rowJ f X (i + 1) = (rowJ f X i).take k ++ (i : Int) :: (rowJ f X i).drop k := by
  have hl := fixP_len f X i
  have hlast := fixP_last f X i
  have hJ := rowJ_len f X i
  have e1 : rowJ f X (i + 1) = (fixP f X i).1 ++ srt (keyP f X) (rng (fixP f X i).2 i ++ [(i : Int)]) := by
    unfold rowJ
    rw [rowI_nz f X (by omega), rng_succ hl.2]
  rw [e1]
  have sS := srt_srt (key := keyP f X) (rng (fixP f X i).2 i)
  have fS := srt_fil (key := keyP f X) (rng (fixP f X i).2 i)
  unfold rowJ at *
  generalize (rng (fixP f X i).2 i) = R at *
  generalize (fixP f X i).1 = F at *
  generalize (fixP f X i).2 = lo at *
  generalize srt (keyP f X) R = S at *
  have hlo : lo ≤ k := by
    rcases Nat.lt_or_ge k lo with q | q
    · have := h1 (lo - 1) (by omega) (by omega)
      rw [get_left F S (by omega)] at this
      rcases hlast with e | e
      · omega
      · omega
    · exact q
  rw [← hl.1] at hlo
  have ek : k = F.length + (k - F.length) := by omega
  have hS : S.length = i - F.length := by rw [List.length_append] at hJ; omega
  rw [ek, List.take_length_add_append, List.drop_length_add_append]
  generalize hq : k - F.length = t at *
  have m := mergeR (key := keyP f X) (i : Int) S t sS (by omega) (by
    rcases Nat.eq_zero_or_pos t with e | e
    · exact .inl e
    · rcases h2 with q | q
      · omega
      · rw [get_app F S (by omega), show k - 1 - F.length = t - 1 by omega] at q
        exact .inr q) (by
    rcases Nat.lt_or_ge t S.length with e | e
    · have := h1 k (Nat.le_refl _) (by omega)
      rw [get_app F S (by omega), hq] at this
      exact .inr this
    · exact .inl (by omega))
  rw [← srt_of m.1 ((fS.app (Fil.refl [(i : Int)])).trans m.2), List.append_assoc]
/-- The first place. -/
theorem rowJ_1 (f : Int → Int) (X : List Int) : rowJ f X 1 = [0] := by
  have h := rowJ_len f X 1
  have m := rowJ_mem f X 1
  rcases hr : rowJ f X 1 with _ | ⟨a, _ | ⟨b, l⟩⟩
  · rw [hr] at h; simp at h
  · have := m a (by rw [hr]; simp)
    have : a = 0 := by omega
    rw [this]
  · rw [hr] at h; simp at h
theorem slcN_lo0 {k : Option Nat} {E : Nat} {K : Kt} {h : Heap} : slcK k (some E) .nils (some (.int .i64 0)) none K h = K .nils h := by
  have := cut_lo (n := 0) (j := 0) (Nat.le_refl _)
  simp only [slcK, Option.isSome_some, true_and]
  rw [show ((0 : Int)) = ((0 : Nat) : Int) from rfl, ex_cut this]
theorem PlacesR (fr : Bool) (X : List Int) (hl : X.length ≤ 1000000) (h : Heap) {K : PV → Heap → Prop} (kn : X = [] → K .nils h) (k : X ≠ [] → K (.list true 1 X.length ((placeT cccT X).map (.int .i64))) h) :
    CanP Tryz.prog 79 [.list fr 1 X.length (X.map (.int .i64))] h K := by
  refine e79 rfl ?_
  try simp only [c79, r79_0, r79_1, r79_2, r79_3, r79_4, r79_5, r79_6, r79_7, r79_8, r79_9, pm, pmW, pmB, ft, ↓reduceIte, reduceCtorEq, nE, nA, nM, nD, nL, iL, iT, iE, iN, iC]
  refine pwp_up X.length (fun i σ h' => Acc h h' (σ 3) 1 i ((rowJ cccT X i).map (.int .i64)) ∧ (i = 0 → σ 3 = .nils) ∧ h.le h' ∧ σ 0 = .list false 1 X.length (X.map (.int .i64)) ∧ σ 4 = .int .i64 i) ?_ ?_
  · exact ⟨Acc.nil _ _ _, fun _ => rfl, Heap.le_refl _, rfl, rfl⟩
  rintro i σ h' K' hi ⟨a, hne, lh, s0, s4⟩ next
  rcases Nat.lt_or_ge i X.length with hlt | hge
  · have hw : IntKind.i64.wrap ((i : Int) + 1) = (i : Int) + 1 := wrap_in (by omega) (by omega)
    have hx := getm (.int .i64) X hlt
    rcases a.live with ⟨e3, e0, e4⟩ | ⟨b, e3, hb, hb2, hbl⟩
    · subst e0
      have hlt0 : (0 : Int) < (X.length : Int) := by omega
      try simp only [s0, s4, hlt, hlt0, e3, hx, pm, pmW, pmB, ft, ↓reduceIte, reduceCtorEq, nE, nA, nM, nD, nL, iL, iT, iE, iN, iC]
      refine pwp_fall (fun m σ h9 => h9 = h' ∧ σ 0 = .list false 1 X.length (X.map (.int .i64)) ∧ σ 3 = .nils ∧ σ 4 = .int .i64 (0 : Nat) ∧ σ 5 = .int .i64 0) 0 ⟨rfl, by simp [put, s0], by simp [put, e3], by simp [put, s4], by simp [put]⟩ ?_
      rintro m σ h9 K9 ⟨rfl, s0, s3, s4, s5⟩ -
      generalize X.getD 0 default = c at *
      try simp only [s0, s3, s4, s5, hlt, hlt0, hx, pm, pmW, pmB, ft, ↓reduceIte, reduceCtorEq, nE, nA, nM, nD, nL, iL, iT, iE, iN, iC]
      refine ⟨_, OfR _ _ ⟨rfl, rfl⟩, ?_⟩
      by_cases p : 0 < cccT c
      · try simp only [s0, s3, s4, s5, hlt, p, slcN_hi, slcN_lo0, pm, pmW, pmB, ft, ↓reduceIte, reduceCtorEq, nE, nA, nM, nD, nL, iL, iT, iE, iN, iC]
        refine ⟨by decide, by decide, fun b hb0 => ⟨by decide, fun b2 hb2 => ?_⟩⟩
        have hb2n : h9.f b2 = none := fresh_or hb0 hb2
        rw [Heap.kill_none hb0]
        refine next hlt _ _ ⟨?_, fun e => by omega, ?_, by simp [put, s0], by simp [put, (show IntKind.i64.wrap 1 = 1 by decide)]⟩
        · rw [rowJ_1]
          have a4 : Acc h (h9.set b2 [PV.int .i64 0]) (.buf b2 1 0 1) 1 1 ([0].map (PV.int .i64)) := Acc.buf (Heap.le_none lh hb2n) (Heap.set_same _ _ _) rfl
          simpa [put] using a4
        · exact Heap.le_set lh (Heap.le_none lh hb2n)
      · try simp only [s0, s3, s4, s5, hlt, p, slcN_hi, slcN_lo0, pm, pmW, pmB, ft, ↓reduceIte, reduceCtorEq, nE, nA, nM, nD, nL, iL, iT, iE, iN, iC]
        refine ⟨by decide, by decide, fun b hb0 => ⟨by decide, fun b2 hb2 => ?_⟩⟩
        have hb2n : h9.f b2 = none := fresh_or hb0 hb2
        rw [Heap.kill_none hb0]
        refine next hlt _ _ ⟨?_, fun e => by omega, ?_, by simp [put, s0], by simp [put, (show IntKind.i64.wrap 1 = 1 by decide)]⟩
        · rw [rowJ_1]
          have a4 : Acc h (h9.set b2 [PV.int .i64 0]) (.buf b2 1 0 1) 1 1 ([0].map (PV.int .i64)) := Acc.buf (Heap.le_none lh hb2n) (Heap.set_same _ _ _) rfl
          simpa [put] using a4
        · exact Heap.le_set lh (Heap.le_none lh hb2n)
    · have hJl : i ≤ ((rowJ cccT X i).map (PV.int .i64)).length := by simp [rowJ_len]
      have hJt : ((rowJ cccT X i).map (PV.int .i64)).take i = (rowJ cccT X i).map (PV.int .i64) := List.take_of_length_le (by simp [rowJ_len])
      try simp only [s0, s4, hlt, e3, hx, hb2, hJl, hJt, pm, pmW, pmB, ft, ↓reduceIte, reduceCtorEq, nE, nA, nM, nD, nL, iL, iT, iE, iN, iC]
      refine pwp_fall (fun m σ h9 => h9 = h'.kill b ∧ m ≤ i ∧ σ 0 = .list false 1 X.length (X.map (.int .i64)) ∧ σ 3 = .list false 1 i ((rowJ cccT X i).map (.int .i64)) ∧ σ 4 = .int .i64 i ∧ σ 5 = .int .i64 m ∧ (cccT (X.getD i default) = 0 → m = i) ∧ ∀ p, m ≤ p → p < i → cccT (X.getD i default) < keyP cccT X ((rowJ cccT X i).getD p default)) i ⟨rfl, Nat.le_refl _, by simp [put, s0], by simp [put], by simp [put, s4], by simp [put], fun _ => rfl, fun p _ _ => by omega⟩ ?_
      rintro m σ h9 K9 ⟨rfl, hm, s0, s3, s4, s5, hs5, hi5⟩ nxt
      have ins := fun hp h2 => rowJ_ins cccT X (i := i) (k := m) hp hm hi5 h2
      have stay := rowJ_z cccT X (i := i)
      have rC := ccc_in (X.getD i default)
      have lk : h.le (h'.kill b) := Heap.le_kill lh hb
      generalize X.getD i default = c at *
      try simp only [s0, s3, s4, s5, hlt, hx, pm, pmW, pmB, ft, ↓reduceIte, reduceCtorEq, nE, nA, nM, nD, nL, iL, iT, iE, iN, iC]
      refine ⟨_, OfR _ _ ⟨rfl, rfl⟩, ?_⟩
      by_cases p : 0 < cccT c
      · by_cases p2 : (0 : Int) < (m : Int)
        · have hjm : m - 1 < i := by omega
          have hj := rowJ_at cccT X hjm
          have hgj := getm (.int .i64) (rowJ cccT X i) (i := m - 1) (by rw [rowJ_len]; omega)
          have hk9 : keyP cccT X ((rowJ cccT X i).getD (m - 1) default) = cccT (X.getD ((rowJ cccT X i).getD (m - 1) default).toNat default) := rfl
          generalize hj9 : (rowJ cccT X i).getD (m - 1) default = j at *
          have j0 := hj.1
          have j1 : j < X.length := by omega
          have hy := getm (.int .i64) X (i := j.toNat) (by omega)
          have w1 : IntKind.i64.wrap ((m : Int) - 1) = ((m - 1 : Nat) : Int) := by rw [wrap_in (by omega) (by omega)]; omega
          try simp only [s0, s3, s4, s5, hlt, hx, p, p2, w1, hjm, hgj, hy, j0, j1, pm, pmW, pmB, ft, ↓reduceIte, reduceCtorEq, nE, nA, nM, nD, nL, iL, iT, iE, iN, iC]
          refine ⟨_, OfR _ _ ⟨rfl, rfl⟩, ?_⟩
          try simp only [s0, s3, s4, s5, hlt, hx, p, p2, w1, pm, pmW, pmB, ft, ↓reduceIte, reduceCtorEq, nE, nA, nM, nD, nL, iL, iT, iE, iN, iC]
          refine ⟨_, OfR _ _ ⟨rfl, rfl⟩, ?_⟩
          by_cases q : cccT c < cccT (X.getD j.toNat default)
          · try simp only [q, s5, w1, pm, pmW, pmB, ft, ↓reduceIte, reduceCtorEq, nE, nA, nM, nD, nL, iL, iT, iE, iN, iC]
            refine nxt (m - 1) _ _ (by omega) ⟨rfl, by omega, by simp [put, s0], by simp [put, s3], by simp [put, s4], by simp [put], fun e => by omega, fun p q1 q2 => ?_⟩
            rcases Nat.lt_or_ge p m with e | e
            · have : p = m - 1 := by omega
              rw [this, hj9, hk9]; exact q
            · exact hi5 p e q2
          · try simp only [q, s0, s3, s4, s5, slcL_hi hm, pm, pmW, pmB, ft, ↓reduceIte, reduceCtorEq, nE, nA, nM, nD, nL, iL, iT, iE, iN, iC]
            refine (Acc.nil h (h'.kill b) 1).appA (m := m) lk (by simp [rowJ_len]; omega) (by omega) (by simp only [maxLen]; omega) fun v1 h1 a1 l1 sd1 => ?_
            try simp only [s4, pm, pmW, pmB, ft, ↓reduceIte, reduceCtorEq, nE, nA, nM, nD, nL, iL, iT, iE, iN, iC]
            refine a1.app l1 (by decide) rfl (by omega) (by simp only [maxLen]; omega) fun v2 h2 a2 l2 sd2 => ?_
            try simp only [s3, s5, slcL_lo hm, pm, pmW, pmB, ft, ↓reduceIte, reduceCtorEq, nE, nA, nM, nD, nL, iL, iT, iE, iN, iC]
            refine a2.appA l2 (by simp [rowJ_len]) (by omega) (by simp only [maxLen]; omega) fun v3 h3 a3 l3 sd3 => ?_
            try simp only [s4, hw, pm, pmW, pmB, ft, ↓reduceIte, reduceCtorEq, nE, nA, nM, nD, nL, iL, iT, iE, iN, iC]
            rw [show 0 + m + 1 + (i - m) = i + 1 by omega] at a3
            refine next hlt _ _ ⟨?_, fun e => by omega, l3, by simp [put, s0], by simp [put]⟩
            have eJ := ins p (.inr (by rw [hk9]; exact q))
            have eR : ([] ++ ((rowJ cccT X i).map (PV.int .i64)).take m ++ [PV.int .i64 i]) ++ (((rowJ cccT X i).map (PV.int .i64)).drop m).take (i - m) = (rowJ cccT X (i + 1)).map (PV.int .i64) := by
              rw [List.take_of_length_le (show (((rowJ cccT X i).map (PV.int .i64)).drop m).length ≤ i - m by simp [rowJ_len]), eJ]; simp [List.map_take, List.map_drop]
            have a4 : Acc h h3 v3 1 (i + 1) ((rowJ cccT X (i + 1)).map (PV.int .i64)) := by rw [← eR]; simpa using a3
            simpa [put] using a4
        · try simp only [s0, s3, s4, s5, hlt, hx, p, p2, slcL_hi hm, pm, pmW, pmB, ft, ↓reduceIte, reduceCtorEq, nE, nA, nM, nD, nL, iL, iT, iE, iN, iC]
          refine (Acc.nil h (h'.kill b) 1).appA (m := m) lk (by simp [rowJ_len]; omega) (by omega) (by simp only [maxLen]; omega) fun v1 h1 a1 l1 sd1 => ?_
          try simp only [s4, pm, pmW, pmB, ft, ↓reduceIte, reduceCtorEq, nE, nA, nM, nD, nL, iL, iT, iE, iN, iC]
          refine a1.app l1 (by decide) rfl (by omega) (by simp only [maxLen]; omega) fun v2 h2 a2 l2 sd2 => ?_
          try simp only [s3, s5, slcL_lo hm, pm, pmW, pmB, ft, ↓reduceIte, reduceCtorEq, nE, nA, nM, nD, nL, iL, iT, iE, iN, iC]
          refine a2.appA l2 (by simp [rowJ_len]) (by omega) (by simp only [maxLen]; omega) fun v3 h3 a3 l3 sd3 => ?_
          try simp only [s4, hw, pm, pmW, pmB, ft, ↓reduceIte, reduceCtorEq, nE, nA, nM, nD, nL, iL, iT, iE, iN, iC]
          rw [show 0 + m + 1 + (i - m) = i + 1 by omega] at a3
          refine next hlt _ _ ⟨?_, fun e => by omega, l3, by simp [put, s0], by simp [put]⟩
          have eJ := ins p (.inl (by omega))
          have eR : ([] ++ ((rowJ cccT X i).map (PV.int .i64)).take m ++ [PV.int .i64 i]) ++ (((rowJ cccT X i).map (PV.int .i64)).drop m).take (i - m) = (rowJ cccT X (i + 1)).map (PV.int .i64) := by
            rw [List.take_of_length_le (show (((rowJ cccT X i).map (PV.int .i64)).drop m).length ≤ i - m by simp [rowJ_len]), eJ]; simp [List.map_take, List.map_drop]
          have a4 : Acc h h3 v3 1 (i + 1) ((rowJ cccT X (i + 1)).map (PV.int .i64)) := by rw [← eR]; simpa using a3
          simpa [put] using a4
      · try simp only [s0, s3, s4, s5, hlt, hx, p, slcL_hi hm, pm, pmW, pmB, ft, ↓reduceIte, reduceCtorEq, nE, nA, nM, nD, nL, iL, iT, iE, iN, iC]
        refine (Acc.nil h (h'.kill b) 1).appA (m := m) lk (by simp [rowJ_len]; omega) (by omega) (by simp only [maxLen]; omega) fun v1 h1 a1 l1 sd1 => ?_
        try simp only [s4, pm, pmW, pmB, ft, ↓reduceIte, reduceCtorEq, nE, nA, nM, nD, nL, iL, iT, iE, iN, iC]
        refine a1.app l1 (by decide) rfl (by omega) (by simp only [maxLen]; omega) fun v2 h2 a2 l2 sd2 => ?_
        try simp only [s3, s5, slcL_lo hm, pm, pmW, pmB, ft, ↓reduceIte, reduceCtorEq, nE, nA, nM, nD, nL, iL, iT, iE, iN, iC]
        refine a2.appA l2 (by simp [rowJ_len]) (by omega) (by simp only [maxLen]; omega) fun v3 h3 a3 l3 sd3 => ?_
        try simp only [s4, hw, pm, pmW, pmB, ft, ↓reduceIte, reduceCtorEq, nE, nA, nM, nD, nL, iL, iT, iE, iN, iC]
        rw [show 0 + m + 1 + (i - m) = i + 1 by omega] at a3
        refine next hlt _ _ ⟨?_, fun e => by omega, l3, by simp [put, s0], by simp [put]⟩
        have hm0 := hs5 (by omega)
        have hd0 : ((rowJ cccT X i).drop m) = [] := List.drop_eq_nil_of_le (by rw [rowJ_len]; omega)
        have ht0 : ((rowJ cccT X i).take m) = rowJ cccT X i := List.take_of_length_le (by rw [rowJ_len]; omega)
        have eJ := stay (by omega)
        have eR : ([] ++ ((rowJ cccT X i).map (PV.int .i64)).take m ++ [PV.int .i64 i]) ++ (((rowJ cccT X i).map (PV.int .i64)).drop m).take (i - m) = (rowJ cccT X (i + 1)).map (PV.int .i64) := by
          rw [← List.map_take, ← List.map_drop, hd0, ht0, eJ]; simp
        have a4 : Acc h h3 v3 1 (i + 1) ((rowJ cccT X (i + 1)).map (PV.int .i64)) := by rw [← eR]; simpa using a3
        simpa [put] using a4
  · have e : i = X.length := by omega
    subst e
    have hnl := Nat.lt_irrefl X.length
    try simp only [s0, s4, hnl, pm, pmW, pmB, ft, ↓reduceIte, reduceCtorEq, nE, nA, nM, nD, nL, iL, iT, iE, iN, iC]
    rcases a with ⟨e3, e0, e4⟩ | ⟨b, e3, hb, hb2, hbl⟩
    · rw [e3]
      have h0 : X = [] := List.length_eq_zero_iff.1 e0
      exact finK_wk (Wk.drop _ lh) (kn h0)
    · have h0 : X ≠ [] := fun e0 => by
        have := hne (by rw [e0]; rfl)
        rw [e3] at this; cases this
      have ea : rowJ cccT X X.length = placeT cccT X := rfl
      rw [← ea] at k
      rw [e3]
      refine (Acc.buf hb hb2 hbl).fin lh ?_
      rw [olds_ints]
      exact k h0
end Go.Proofs.YtcgaphmndnmfdaaGreat
