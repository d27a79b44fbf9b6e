/-
  Go's library: slices.SortStableFunc of a live row of whole numbers.
  Conditions: what compares tells by a key which of two is the lesser.
-/
import Derived.Test.YtcgaphmndnmfdaaGreatC
import Derived.Test.YtcgaphmndnmfdaaGreatPmT

namespace Go.Proofs.YtcgaphmndnmfdaaGreat
open Go.Pm
open Nat renaming reduceEqDiff → nE, reduceAdd → nA, reduceMul → nM, reduceLeDiff → nD, reduceLT → nL
open Int renaming reduceLE → iL, reduceLT → iT, reduceEq → iE, reduceToNat → iN, cast_ofNat_Int → iC
set_option maxRecDepth 100000
set_option linter.unusedSimpArgs false
set_option linter.unusedVariables false
set_option maxHeartbeats 4000000

def en1 (x : Int) : List PV := [.int .i64 x]
theorem rAIn {pre post : List PV} {l : List Int} {i : Nat} (h : i < l.length) : (rowC en1 pre post l)[pre.length + i]? = some (.int .i64 (l.getD i default)) := rowC_int h
theorem rLIn {pre post : List PV} {l : List Int} {i : Nat} (h : i < l.length) : pre.length + i + 1 ≤ (rowC en1 pre post l).length := by
  have := rowC_in (enc := en1) (E := 1) (fun _ => rfl) (pre := pre) (post := post) h
  rwa [Nat.mul_one] at this
theorem rWIn {pre post : List PV} {l : List Int} {i : Nat} (h : i < l.length) (x : Int) : wr (rowC en1 pre post l) (pre.length + i) [.int .i64 x] = rowC en1 pre post (l.set i x) := by
  have := rowC_wr (enc := en1) (E := 1) (fun _ => rfl) (pre := pre) (post := post) h x
  rwa [Nat.mul_one] at this
theorem swapRangeIn (pre post : List PV) (b : Nat) (g : FuncId) (first caps : List PV) (l : List (Int)) (n i j m : Nat) (hN : l.length = n) (h1 : i + m ≤ j) (h2 : j + m ≤ n) (hn : n ≤ 1000000) (h : Heap) (hb : h.f b = some (rowC en1 pre post l))
    {K : PV → Heap → Prop} (k : K (.tup []) (h.set b (rowC en1 pre post (swpR l i j m)))) :
    CanP Tryz.prog 158 [.buf b 1 pre.length n, .int .i64 i, .int .i64 j, .int .i64 m, .fn g first caps] h K := by
  refine e158 rfl ?_
  try simp only [c158, r158_0, r158_1, r158_2, r158_3, pm, pmW, pmB, ft, ↓reduceIte, reduceCtorEq, nE, nA, nM, nD, nL, iL, iT, iE, iN, iC]
  refine pwp_up m (fun q σ h' => h' = h.set b (rowC en1 pre post (swpR l i j q)) ∧ σ 0 = .buf b 1 pre.length n ∧ σ 1 = .int .i64 i ∧ σ 2 = .int .i64 j ∧ σ 3 = .int .i64 m ∧ σ 10 = .int .i64 q) ?_ ?_
  · exact ⟨(Heap.set_self hb).symm, rfl, rfl, rfl, rfl, rfl⟩
  · rintro q σ h' K' hq ⟨rfl, s0, s1, s2, s3, s10⟩ next
    try simp only [s3, s10, cdK_dec, pm, pmW, pmB, ft, ↓reduceIte, reduceCtorEq, nE, nA, nM, nD, nL, iL, iT, iE, iN, iC]
    refine ⟨fun hlt => ?_, fun hge => ?_⟩
    · have hs : swpR l i j (q + 1) = swp (swpR l i j q) (i + q) (j + q) := rfl
      have hl := swpR_len l i j q
      generalize swpR l i j (q + 1) = M at *
      generalize swpR l i j q = L at *
      have w1 : IntKind.i64.wrap ((i : Int) + q) = ((i + q : Nat) : Int) := by rw [wrap_in (by omega) (by omega)]; omega
      have w2 : IntKind.i64.wrap ((j : Int) + q) = ((j + q : Nat) : Int) := by rw [wrap_in (by omega) (by omega)]; omega
      have w3 : IntKind.i64.wrap ((q : Int) + 1) = (q : Int) + 1 := wrap_in (by omega) (by omega)
      have k1 : i + q < n := by omega
      have k2 : j + q < n := by omega
      have a1 := rAIn (pre := pre) (post := post) (l := L) (i := i + q) (by omega)
      have a2 := rAIn (pre := pre) (post := post) (l := L) (i := j + q) (by omega)
      have b1 := rLIn (pre := pre) (post := post) (l := L) (i := i + q) (by omega)
      have b2 := rLIn (pre := pre) (post := post) (l := L) (i := j + q) (by omega)
      have c1 := rWIn (pre := pre) (post := post) (l := L) (i := i + q) (by omega) (L.getD (j + q) default)
      have c2 := rWIn (pre := pre) (post := post) (l := L.set (i + q) (L.getD (j + q) default)) (i := j + q) (by simp; omega) (L.getD (i + q) default)
      have b3 := rLIn (pre := pre) (post := post) (l := L.set (i + q) (L.getD (j + q) default)) (i := j + q) (by simp; omega)
      have hsw : M = (L.set (i + q) (L.getD (j + q) default)).set (j + q) (L.getD (i + q) default) := hs
      generalize L.getD (i + q) default = x at *
      generalize L.getD (j + q) default = y at *
      try simp only [s0, s1, s2, s3, s10, w1, w2, w3, k1, k2, a1, a2, b1, b2, b3, c1, c2, pm, pmW, pmB, ft, ↓reduceIte, reduceCtorEq, nE, nA, nM, nD, nL, iL, iT, iE, iN, iC]
      exact next hlt _ _ ⟨by rw [hsw], by simp [put, s0], by simp [put, s1], by simp [put, s2], by simp [put, s3], by simp [put]⟩
    · have : q = m := by omega
      subst this
      try simp only [pm, pmW, pmB, ft, ↓reduceIte, reduceCtorEq, nE, nA, nM, nD, nL, iL, iT, iE, iN, iC]
      exact finK_rf k
theorem rotateIn (pre post : List PV) (b : Nat) (g : FuncId) (first caps : List PV) (o1 : olds first = first) (o2 : olds caps = caps) (P A B Q : List (Int)) (n a m e : Nat) (ha : a = P.length) (hm : m = P.length + A.length) (he : e = P.length + A.length + B.length) (hN : n = P.length + A.length + B.length + Q.length)
    (lA : 0 < A.length) (lB : 0 < B.length) (hn : n ≤ 1000000) (h : Heap) (hb : h.f b = some (rowC en1 pre post (P ++ A ++ B ++ Q)))
    {K : PV → Heap → Prop} (k : K (.tup []) (h.set b (rowC en1 pre post (P ++ B ++ A ++ Q)))) :
    CanP Tryz.prog 156 [.buf b 1 pre.length n, .int .i64 a, .int .i64 m, .int .i64 e, .fn g first caps] h K := by
  refine e156 rfl ?_
  have w1 : IntKind.i64.wrap ((m : Int) - a) = (A.length : Int) := by rw [wrap_in (by omega) (by omega)]; omega
  have w2 : IntKind.i64.wrap ((e : Int) - m) = (B.length : Int) := by rw [wrap_in (by omega) (by omega)]; omega
  try simp only [c156, r156_0, r156_1, r156_2, r156_3, r156_4, r156_5, r156_6, r156_7, r156_8, w1, w2, o1, o2, pm, pmW, pmB, ft, ↓reduceIte, reduceCtorEq, nE, nA, nM, nD, nL, iL, iT, iE, iN, iC]
  refine pwp_fall (fun q σ h' => ∃ B1 X Y A2 : List (Int), q = X.length + Y.length ∧ 0 < X.length ∧ 0 < Y.length ∧ B1.length + X.length + Y.length + A2.length = n ∧ B1.length + X.length = m ∧ B1 ++ Y ++ X ++ A2 = P ++ B ++ A ++ Q ∧ h' = h.set b (rowC en1 pre post (B1 ++ X ++ Y ++ A2)) ∧ σ 0 = .buf b 1 pre.length n ∧ σ 2 = .int .i64 m ∧ σ 4 = .fn g first caps ∧ σ 10 = .int .i64 X.length ∧ σ 11 = .int .i64 Y.length)
    (A.length + B.length) ⟨P, A, B, Q, rfl, lA, lB, by omega, by omega, rfl, (Heap.set_self hb).symm, rfl, rfl, rfl, rfl, rfl⟩ ?_
  rintro q σ h' K' ⟨B1, X, Y, A2, rfl, x0, y0, hl, hb1, ht, rfl, s0, s2, s4, s10, s11⟩ next
  have w3 : IntKind.i64.wrap ((m : Int) - X.length) = (B1.length : Int) := by rw [wrap_in (by omega) (by omega)]; omega
  rcases Nat.lt_trichotomy X.length Y.length with hlt | heq | hgt
  · -- the second part is the longer one
    have d0 : ¬ ((X.length : Int) = Y.length) := by omega
    have d1 : ¬ (Y.length : Int) < X.length := by omega
    have w4 : IntKind.i64.wrap ((m : Int) + Y.length) = ((m + Y.length : Nat) : Int) := by rw [wrap_in (by omega) (by omega)]; omega
    have w5 : IntKind.i64.wrap (((m + Y.length : Nat) : Int) - X.length) = ((m + Y.length - X.length : Nat) : Int) := by rw [wrap_in (by omega) (by omega)]; omega
    have w6 : IntKind.i64.wrap ((Y.length : Int) - X.length) = ((Y.length - X.length : Nat) : Int) := by rw [wrap_in (by omega) (by omega)]; omega
    try simp only [s0, s2, s4, s10, s11, d0, d1, w3, w4, w5, pm, pmW, pmB, ft, ↓reduceIte, reduceCtorEq, nE, nA, nM, nD, nL, iL, iT, iE, iN, iC]
    obtain ⟨Y1, Y2, rfl, hy⟩ : ∃ Y1 Y2, Y = Y1 ++ Y2 ∧ Y2.length = X.length := ⟨Y.take (Y.length - X.length), Y.drop (Y.length - X.length), (List.take_append_drop _ _).symm, by rw [List.length_drop]; omega⟩
    simp only [List.length_append] at hl hlt w6 y0
    refine swapRangeIn pre post b g first caps (B1 ++ X ++ (Y1 ++ Y2) ++ A2) n _ _ _ (by simp; omega) (by simp; omega) (by simp; omega) hn _ (Heap.set_same _ _ _) ?_
    have sp1 := swpR_parts B1 X Y1 Y2 A2 hy.symm
    have e1 : m + (Y1 ++ Y2).length - X.length = B1.length + X.length + Y1.length := by simp; omega
    have e2 : B1 ++ X ++ (Y1 ++ Y2) ++ A2 = B1 ++ X ++ Y1 ++ Y2 ++ A2 := by simp
    rw [e1, e2, sp1]
    simp only [List.length_append] at s11
    try simp only [s10, s11, w6, pm, pmW, pmB, ft, ↓reduceIte, reduceCtorEq, nE, nA, nM, nD, nL, iL, iT, iE, iN, iC]
    refine next _ _ _ (by omega : Y2.length + Y1.length < _) ⟨B1, Y2, Y1, X ++ A2, rfl, by omega, by omega, by simp; omega, by omega, ?_, by simp, by simp [put, s0], by simp [put, s2], by simp [put, s4], by simp [put, s10, hy], ?_⟩
    · rw [← ht]; simp
    · simp only [put_some]
      have : Y1.length + Y2.length - X.length = Y1.length := by omega
      simp [this]
  · have d0 : ((X.length : Int) = Y.length) := by omega
    try simp only [s0, s2, s4, s10, s11, d0, pm, pmW, pmB, ft, ↓reduceIte, reduceCtorEq, nE, nA, nM, nD, nL, iL, iT, iE, iN, iC]
    rw [← d0, w3]
    refine swapRangeIn pre post b g first caps (B1 ++ X ++ Y ++ A2) n _ _ _ (by simp; omega) (by omega) (by omega) hn _ (Heap.set_same _ _ _) ?_
    have sp1 := swpR_parts B1 X [] Y A2 heq
    simp only [List.append_nil, List.length_nil, Nat.add_zero] at sp1
    rw [← hb1, sp1, ht]
    try simp only [pm, pmW, pmB, ft, ↓reduceIte, reduceCtorEq, nE, nA, nM, nD, nL, iL, iT, iE, iN, iC]
    exact finK_rf k
  · have d0 : ¬ ((X.length : Int) = Y.length) := by omega
    have d1 : (Y.length : Int) < X.length := by omega
    have w6 : IntKind.i64.wrap ((X.length : Int) - Y.length) = ((X.length - Y.length : Nat) : Int) := by rw [wrap_in (by omega) (by omega)]; omega
    try simp only [s0, s2, s4, s10, s11, d0, d1, w3, pm, pmW, pmB, ft, ↓reduceIte, reduceCtorEq, nE, nA, nM, nD, nL, iL, iT, iE, iN, iC]
    obtain ⟨X1, X2, rfl, hx⟩ : ∃ X1 X2, X = X1 ++ X2 ∧ X1.length = Y.length := ⟨X.take Y.length, X.drop Y.length, (List.take_append_drop _ _).symm, by rw [List.length_take]; omega⟩
    simp only [List.length_append] at hl hgt w6 x0 hb1
    refine swapRangeIn pre post b g first caps (B1 ++ (X1 ++ X2) ++ Y ++ A2) n _ _ _ (by simp; omega) (by omega) (by omega) hn _ (Heap.set_same _ _ _) ?_
    have sp1 := swpR_parts B1 X1 X2 Y A2 hx
    have e1 : m = B1.length + X1.length + X2.length := by omega
    have e2 : B1 ++ (X1 ++ X2) ++ Y ++ A2 = B1 ++ X1 ++ X2 ++ Y ++ A2 := by simp
    rw [hx] at sp1
    rw [e2, e1, hx, sp1]
    simp only [List.length_append] at s10
    try simp only [s10, s11, w6, pm, pmW, pmB, ft, ↓reduceIte, reduceCtorEq, nE, nA, nM, nD, nL, iL, iT, iE, iN, iC]
    refine next _ _ _ (by simp; omega : X2.length + X1.length < _) ⟨B1 ++ Y, X2, X1, A2, rfl, by omega, by omega, by simp; omega, by simp; omega, ?_, by simp, by simp [put, s0], by simp [put, s2], by simp [put, s4], ?_, by simp [put, s11, hx]⟩
    · rw [← ht]; simp
    · simp only [put_some]
      have : X1.length + X2.length - Y.length = X2.length := by omega
      simp [this]
/-- What compares two elements. -/
structure CmpIn (g : FuncId) (first caps : List PV) (c : Int → Int → Int) (key : Int → Int) (ok : Int → Prop) : Prop where
  o1 : olds first = first
  o2 : olds caps = caps
  run : ∀ (x y : Int) (h : Heap) (K : PV → Heap → Prop), ok x → ok y → K (.int .i64 (c x y)) h → CanP Tryz.prog g (first ++ [PV.int .i64 x, PV.int .i64 y] ++ caps) h K
  less : ∀ x y, ok x → ok y → (c x y < 0 ↔ key x < key y)
theorem insertionIn (pre post : List PV) (b : Nat) (g : FuncId) (first caps : List PV) (c : Int → Int → Int) (key : Int → Int) (ok : Int → Prop) (hc : CmpIn g first caps c key ok) (P A Q : List (Int)) (n a e : Nat) (ha : a = P.length) (he : e = P.length + A.length) (hN : n = P.length + A.length + Q.length)
    (hok : ∀ x ∈ A, ok x) (hn : n ≤ 1000000) (h : Heap) (hb : h.f b = some (rowC en1 pre post (P ++ A ++ Q)))
    {K : PV → Heap → Prop} (k : ∀ S, Srt key S → Fil key A S → K (.tup []) (h.set b (rowC en1 pre post (P ++ S ++ Q)))) :
    CanP Tryz.prog 149 [.buf b 1 pre.length n, .int .i64 a, .int .i64 e, .fn g first caps] h K := by
  refine e149 rfl ?_
  have w1 : IntKind.i64.wrap ((a : Int) + 1) = ((a + 1 : Nat) : Int) := by rw [wrap_in (by omega) (by omega)]; omega
  try simp only [c149, r149_0, r149_1, r149_2, r149_3, r149_4, r149_5, r149_6, w1, hc.o1, hc.o2, pm, pmW, pmB, ft, ↓reduceIte, reduceCtorEq, nE, nA, nM, nD, nL, iL, iT, iE, iN, iC]
  have st : ∃ S R : List (Int), S ++ R = A ∧ Srt key S ∧ S.length = min 1 A.length := by
    cases A with
    | nil => exact ⟨[], [], rfl, List.Pairwise.nil, rfl⟩
    | cons x A => exact ⟨[x], A, rfl, by simp [Srt], by simp⟩
  obtain ⟨S0, R0, rfl, srt0, len0⟩ := st
  simp only [List.length_append] at he hN len0
  refine pwp_fall (fun q σ h' => ∃ S A1 R : List (Int), q = R.length ∧ A1 ++ R = S0 ++ R0 ∧ Srt key S ∧ Fil key A1 S ∧ (S = [] → R = []) ∧ h' = h.set b (rowC en1 pre post (P ++ S ++ R ++ Q)) ∧ σ 0 = .buf b 1 pre.length n ∧ σ 1 = .int .i64 a ∧ σ 2 = .int .i64 e ∧ σ 3 = .fn g first caps ∧ (S ≠ [] → σ 8 = .int .i64 ((P.length + S.length : Nat) : Int)) ∧ (S = [] → σ 8 = .int .i64 ((a + 1 : Nat) : Int))) R0.length
    ⟨S0, S0, R0, rfl, rfl, srt0, Fil.refl _, fun e => by rw [e] at len0; simp at len0; exact List.length_eq_zero_iff.1 (by omega), by rw [Heap.set_self]; simpa using hb, rfl, rfl, rfl, rfl, fun hne => ?_, fun _ => rfl⟩ ?_
  · have : S0.length = 1 := by have := List.length_pos_iff.2 hne; omega
    show PV.int .i64 ((a + 1 : Nat) : Int) = _
    rw [this, ha]
  rintro q σ h' K' ⟨S, A1, R, rfl, hA, sS, fS, hE, rfl, s0, s1, s2, s3, s8a, s8b⟩ next
  have hlen := congrArg List.length hA
  have hfl := fS.length
  simp only [List.length_append] at hlen
  by_cases hS0 : S = []
  · have hR := hE hS0
    have s8 := s8b hS0
    clear s8a s8b
    subst hS0 hR
    have h00 : A1.length = 0 := hfl
    have h01 : A1.length + 0 = S0.length + R0.length := hlen
    have hge : ¬ (((a + 1 : Nat) : Int) < e) := by omega
    try simp only [s2, s8, hge, pm, pmW, pmB, ft, ↓reduceIte, reduceCtorEq, nE, nA, nM, nD, nL, iL, iT, iE, iN, iC]
    have kk := k [] List.Pairwise.nil (by rw [← hA]; simpa using fS)
    simp only [List.append_nil] at kk ⊢
    exact finK_rf kk
  have s8 := s8a hS0
  clear s8a s8b
  cases R with
  | nil =>
    have h01 : A1.length + 0 = S0.length + R0.length := hlen
    have hge : ¬ (((P.length + S.length : Nat) : Int) < e) := by omega
    try simp only [s2, s8, hge, pm, pmW, pmB, ft, ↓reduceIte, reduceCtorEq, nE, nA, nM, nD, nL, iL, iT, iE, iN, iC]
    have kk := k S sS (by rw [← hA]; simpa using fS)
    try simp only [List.append_nil]
    exact finK_rf kk
  | cons x R =>
    have h01 : A1.length + (R.length + 1) = S0.length + R0.length := hlen
    have hlt : (((P.length + S.length : Nat) : Int) < e) := by omega
    have hokx : ok x := hok x (by rw [← hA]; simp)
    have hokS : ∀ y ∈ S, ok y := fun y hy => hok y (by rw [← hA]; exact List.mem_append_left _ (fS.mem.2 hy))
    have w2 : IntKind.i64.wrap (((P.length + S.length : Nat) : Int) + 1) = ((P.length + S.length + 1 : Nat) : Int) := by rw [wrap_in (by omega) (by omega)]; omega
    try simp only [s2, s8, hlt, pm, pmW, pmB, ft, ↓reduceIte, reduceCtorEq, nE, nA, nM, nD, nL, iL, iT, iE, iN, iC]
    refine pwp_fall (fun q σ' h' => ∃ S1 S2 : List (Int), q = S1.length ∧ S1 ++ S2 = S ∧ (∀ y ∈ S2, key x < key y) ∧ h' = h.set b (rowC en1 pre post (P ++ S1 ++ x :: (S2 ++ R ++ Q))) ∧ σ' 0 = .buf b 1 pre.length n ∧ σ' 1 = .int .i64 a ∧ σ' 2 = .int .i64 e ∧ σ' 3 = .fn g first caps ∧ σ' 8 = .int .i64 ((P.length + S.length : Nat) : Int) ∧ σ' 9 = .int .i64 ((P.length + S1.length : Nat) : Int)) S.length
      ⟨S, [], rfl, by simp, by simp, by simp, by simp [put, s0], by simp [put, s1], by simp [put, s2], by simp [put, s3], by simp [put, s8], by simp [put]⟩ ?_
    rintro q σ' h' K2 ⟨S1, S2, rfl, rfl, hx2, rfl, t0, t1, t2, t3, t8, t9⟩ next2
    have stop : Srt key (S1 ++ x :: S2) → ∀ σ2, σ2 0 = .buf b 1 pre.length n → σ2 1 = .int .i64 a → σ2 2 = .int .i64 e → σ2 3 = .fn g first caps → σ2 8 = .int .i64 ((P.length + (S1 ++ S2).length + 1 : Nat) : Int) → K' σ2 (h.set b (rowC en1 pre post (P ++ S1 ++ x :: (S2 ++ R ++ Q)))) := fun ss σ2 u0 u1 u2 u3 u8 => by
      refine next R.length σ2 _ (by simp) ⟨S1 ++ x :: S2, A1 ++ [x], R, rfl, by rw [← hA]; simp, ss, ?_, fun e => by simp at e, by simp, u0, u1, u2, u3, fun _ => by rw [u8]; simp; omega, fun e => by simp at e⟩
      have f1 : Fil key (A1 ++ [x]) (S1 ++ S2 ++ [x]) := fS.app (Fil.refl [x])
      have f2 : Fil key (S1 ++ S2 ++ [x]) (S1 ++ x :: S2) := by
        have : Fil key (S2 ++ [x]) ([x] ++ S2) := Fil.swap fun y hy z hz => by simp at hz; subst hz; exact hx2 y hy
        have := (Fil.refl S1).app this
        simpa using this
      exact f1.trans f2
    by_cases h1 : S1 = []
    · subst h1
      simp only [List.length_nil, Nat.add_zero, List.nil_append, List.append_nil] at t9 t8 w2 stop ⊢
      have hnl : ¬ ((a : Int) < P.length) := by omega
      try simp only [t1, t8, t9, hnl, w2, pm, pmW, pmB, ft, ↓reduceIte, reduceCtorEq, nE, nA, nM, nD, nL, iL, iT, iE, iN, iC]
      exact stop (List.pairwise_cons.2 ⟨fun y hy => by have := hx2 y hy; omega, sS⟩) _ (by simp [put, t0]) (by simp [put, t1]) (by simp [put, t2]) (by simp [put, t3]) (by simp [put])
    · obtain ⟨S3, y, rfl⟩ : ∃ S3 y, S1 = S3 ++ [y] := ⟨S1.dropLast, S1.getLast h1, (List.dropLast_concat_getLast h1).symm⟩
      have hnl : (a : Int) < ((P.length + (S3 ++ [y]).length : Nat) : Int) := by simp; omega
      have hlS : (S3 ++ [y] ++ S2).length = S3.length + 1 + S2.length := by simp; omega
      have hcl : (x :: R).length = R.length + 1 := rfl
      have i1 : P.length + (S3 ++ [y]).length = P.length + S3.length + 1 := by simp; omega
      rw [i1] at t9 hnl
      have eL : P ++ (S3 ++ [y]) ++ x :: (S2 ++ R ++ Q) = (P ++ S3) ++ y :: x :: (S2 ++ R ++ Q) := by simp
      have lX : (P ++ S3).length = P.length + S3.length := by simp
      have lL : ((P ++ S3) ++ y :: x :: (S2 ++ R ++ Q)).length = n := by simp; omega
      have g1 := get_mid1 (P ++ S3) y x (S2 ++ R ++ Q)
      have g0 := get_mid (P ++ S3) y (x :: (S2 ++ R ++ Q))
      have u := set_two (P ++ S3) y x y x (S2 ++ R ++ Q)
      rw [eL]
      rw [lX] at g1 g0 u
      generalize hL : (P ++ S3) ++ y :: x :: (S2 ++ R ++ Q) = L at *
      have w3 : IntKind.i64.wrap (((P.length + S3.length + 1 : Nat) : Int) - 1) = ((P.length + S3.length : Nat) : Int) := by rw [wrap_in (by omega) (by omega)]; omega
      have k1 : P.length + S3.length + 1 < n := by omega
      have k0 : P.length + S3.length < n := by omega
      have a1 := rAIn (pre := pre) (post := post) (l := L) (i := P.length + S3.length + 1) (by omega)
      have a0 := rAIn (pre := pre) (post := post) (l := L) (i := P.length + S3.length) (by omega)
      have b1 := rLIn (pre := pre) (post := post) (l := L) (i := P.length + S3.length + 1) (by omega)
      have b0 := rLIn (pre := pre) (post := post) (l := L) (i := P.length + S3.length) (by omega)
      have c1 := rWIn (pre := pre) (post := post) (l := L) (i := P.length + S3.length + 1) (by omega) y
      have c0 := rWIn (pre := pre) (post := post) (l := L.set (P.length + S3.length + 1) y) (i := P.length + S3.length) (by simp; omega) x
      have b2 := rLIn (pre := pre) (post := post) (l := L.set (P.length + S3.length + 1) y) (i := P.length + S3.length) (by simp; omega)
      rw [g1] at a1
      rw [g0] at a0
      rw [u] at c0
      have hoky : ok y := hokS y (by simp)
      have hrun := fun (h : Heap) (K : PV → Heap → Prop) => hc.run x y h K hokx hoky
      have hls := hc.less x y hokx hoky
      generalize hj : P.length + S3.length = j at *
      try simp only [t0, t1, t3, t9, hnl, w3, k1, k0, a1, a0, b1, b0, pm, pmW, pmB, ft, ↓reduceIte, reduceCtorEq, nE, nA, nM, nD, nL, iL, iT, iE, iN, iC]
      refine ⟨_, hrun _ _ ⟨rfl, rfl⟩, ?_⟩
      by_cases hxy : key x < key y
      · have hcx : c x y < 0 := hls.2 hxy
        try simp only [t0, t9, hcx, w3, k1, k0, a1, a0, b1, b0, b2, c1, c0, pm, pmW, pmB, ft, ↓reduceIte, reduceCtorEq, nE, nA, nM, nD, nL, iL, iT, iE, iN, iC]
        refine next2 _ _ _ (by simp : S3.length < _) ⟨S3, y :: S2, rfl, by simp, fun z hz => ?_, ?_, by simp [put, t0], by simp [put, t1], by simp [put, t2], by simp [put, t3], by simp [put, t8], ?_⟩
        · rcases List.mem_cons.1 hz with rfl | hz
          · exact hxy
          · exact hx2 z hz
        · simp
        · simp [put]; omega
      · have hcx : ¬ c x y < 0 := fun e => hxy (hls.1 e)
        try simp only [t8, t9, hcx, w2, pm, pmW, pmB, ft, ↓reduceIte, reduceCtorEq, nE, nA, nM, nD, nL, iL, iT, iE, iN, iC]
        rw [← eL]
        refine stop ?_ _ (by simp [put, t0]) (by simp [put, t1]) (by simp [put, t2]) (by simp [put, t3]) (by simp [put])
        have sx : ∀ z ∈ S3 ++ [y], key z ≤ key x := fun z hz => by
          rcases List.mem_append.1 hz with hz | hz
          · have := sS.left.cross z hz y (by simp); omega
          · simp at hz; subst hz; omega
        refine sS.left.app (List.pairwise_cons.2 ⟨fun z hz => by have := hx2 z hz; omega, sS.right⟩) fun z hz w hw => ?_
        rcases List.mem_cons.1 hw with rfl | hw
        · exact sx z hz
        · have := sx z hz; have := hx2 w hw; omega
theorem smAIn (pre post : List PV) (b : Nat) (g : FuncId) (first caps : List PV) (c : Int → Int → Int) (key : Int → Int) (ok : Int → Prop) (hc : CmpIn g first caps c key ok) (P A B Q L : List (Int)) (n a m e : Nat) (hLL : P ++ A ++ B ++ Q = L) (ha : a = P.length) (hm : m = P.length + A.length) (he : e = P.length + A.length + B.length) (hN : n = P.length + A.length + B.length + Q.length)
    (lA : 0 < A.length) (lB : 0 < B.length) (sA : Srt key A) (sB : Srt key B) (okA : ∀ x ∈ A, ok x) (okB : ∀ x ∈ B, ok x) (hn : n ≤ 1000000) (h : Heap) (hb : h.f b = some (rowC en1 pre post L))
    {K : PV → Heap → Prop} (k : ∀ S, Srt key S → Fil key (A ++ B) S → K (.tup []) (h.set b (rowC en1 pre post (P ++ S ++ Q)))) (oneA : A.length = 1) :
    CanP Tryz.prog 150 [.buf b 1 pre.length n, .int .i64 a, .int .i64 m, .int .i64 e, .fn g first caps] h K := by
  refine e150 rfl ?_
  have w1 : IntKind.i64.wrap ((m : Int) - a) = (A.length : Int) := by rw [wrap_in (by omega) (by omega)]; omega
  have w2 : IntKind.i64.wrap ((e : Int) - m) = (B.length : Int) := by rw [wrap_in (by omega) (by omega)]; omega
  have hL : L.length = n := by rw [← hLL]; simp; omega
  have gA : ∀ i, a ≤ i → i < m → L.getD i default = A.getD (i - a) default := fun i h1 h2 => by
    rw [← hLL, List.append_assoc, List.append_assoc, get_app _ _ (by omega), get_left _ _ (by omega), ha]
  have gB : ∀ i, m ≤ i → i < e → L.getD i default = B.getD (i - m) default := fun i h1 h2 => by
    rw [← hLL, List.append_assoc, get_app _ _ (by simp; omega), get_left _ _ (by simp; omega)]; congr 1; simp; omega
  have okL : ∀ i, a ≤ i → i < e → ok (L.getD i default) := fun i h1 h2 => by
    by_cases q : i < m
    · rw [gA i h1 q]; exact okA _ (get_mem _ (by omega))
    · rw [gB i (by omega) h2]; exact okB _ (get_mem _ (by omega))
  try simp only [c150, r150_0, r150_1, r150_2, r150_3, r150_4, r150_5, r150_6, r150_7, r150_8, r150_9, r150_10, r150_11, r150_12, r150_13, r150_14, r150_15, r150_16, r150_17, r150_18, r150_19, r150_20, r150_21, r150_22, r150_23, r150_24, r150_25, r150_26, r150_27, r150_28, r150_29, r150_30, r150_31, r150_32, r150_33, r150_34, r150_35, r150_36, r150_37, r150_38, r150_39, r150_40, r150_41, r150_42, r150_43, r150_44, w1, hc.o1, hc.o2, pm, pmW, pmB, ft, ↓reduceIte, reduceCtorEq, nE, nA, nM, nD, nL, iL, iT, iE, iN, iC]
  have oneA' : (A.length : Int) = 1 := by omega
  obtain ⟨x, rfl⟩ := List.length_eq_one_iff.1 oneA
  have gx : L.getD a default = x := by have := gA a (by omega) (by simp at hm; omega); simpa [List.getD] using this
  have okx : ok x := okA x (by simp)
  try simp only [oneA', pm, pmW, pmB, ft, ↓reduceIte, reduceCtorEq, nE, nA, nM, nD, nL, iL, iT, iE, iN, iC]
  refine pwp_fall (fun q σ h' => ∃ i j : Nat, q = j - i ∧ m ≤ i ∧ i ≤ j ∧ j ≤ e ∧ (i = m ∨ key (L.getD (i - 1) default) < key x) ∧ (j = e ∨ ¬ key (L.getD j default) < key x) ∧ h' = h ∧ σ 0 = .buf b 1 pre.length n ∧ σ 1 = .int .i64 a ∧ σ 4 = .fn g first caps ∧ σ 10 = .int .i64 i ∧ σ 11 = .int .i64 j) (e - m)
    ⟨m, e, rfl, by omega, by omega, by omega, .inl rfl, .inl rfl, rfl, rfl, rfl, rfl, rfl, rfl⟩ ?_
  rintro q σ h' K' ⟨i, j, rfl, i0, ij, je, hi, hj, rfl, s0, s1, s4, s10, s11⟩ next
  have w3 : IntKind.i64.wrap ((i : Int) + j) = ((i + j : Nat) : Int) := by rw [wrap_in (by omega) (by omega)]; omega
  have w4 := halfU (a := i) (c := j) (by omega)
  obtain ⟨t, ht⟩ : ∃ t, t = (i + j) / 2 := ⟨_, rfl⟩
  rw [← ht] at w4
  try simp only [s10, s11, w3, w4, cdK_dec, pm, pmW, pmB, ft, ↓reduceIte, reduceCtorEq, nE, nA, nM, nD, nL, iL, iT, iE, iN, iC]
  refine ⟨fun hlt => ?_, fun hge => ?_⟩
  · have t1 : i ≤ t := by omega
    have t2 : t < j := by omega
    have kt : t < n := by omega
    have ka : a < n := by omega
    have a1 := rAIn (pre := pre) (post := post) (l := L) (i := t) (by omega)
    have a0 := rAIn (pre := pre) (post := post) (l := L) (i := a) (by omega)
    have b1 := rLIn (pre := pre) (post := post) (l := L) (i := t) (by omega)
    have b0 := rLIn (pre := pre) (post := post) (l := L) (i := a) (by omega)
    rw [gx] at a0
    have okt := okL t (by omega) (by omega)
    have hrun := fun (h : Heap) (K : PV → Heap → Prop) => hc.run (L.getD t default) x h K okt okx
    have hls := hc.less (L.getD t default) x okt okx
    have w5 : IntKind.i64.wrap ((t : Int) + 1) = ((t + 1 : Nat) : Int) := by rw [wrap_in (by omega) (by omega)]; omega
    have keep : ∀ (i' j' : Nat) (σ' : Sl), j' - i' < j - i → m ≤ i' → i' ≤ j' → j' ≤ e → (i' = m ∨ key (L.getD (i' - 1) default) < key x) → (j' = e ∨ ¬ key (L.getD j' default) < key x) → σ' 0 = σ 0 → σ' 1 = σ 1 → σ' 4 = σ 4 → σ' 10 = .int .i64 i' → σ' 11 = .int .i64 j' → K' σ' h' := fun i' j' σ' q1 q2 q3 q4 q5 q6 u0 u1 u4 u10 u11 =>
      next (j' - i') σ' h' q1 ⟨i', j', rfl, q2, q3, q4, q5, q6, rfl, by rw [u0, s0], by rw [u1, s1], by rw [u4, s4], u10, u11⟩
    generalize hy : L.getD t default = y at *
    try simp only [s0, s1, s4, s10, s11, w3, w4, kt, ka, a1, a0, b1, b0, hb, pm, pmW, pmB, ft, ↓reduceIte, reduceCtorEq, nE, nA, nM, nD, nL, iL, iT, iE, iN, iC]
    refine ⟨_, hrun _ _ ⟨rfl, rfl⟩, ?_⟩
    by_cases hxy : key y < key x
    · have hcx : c y x < 0 := hls.2 hxy
      try simp only [hcx, w5, pm, pmW, pmB, ft, ↓reduceIte, reduceCtorEq, nE, nA, nM, nD, nL, iL, iT, iE, iN, iC]
      exact keep (t + 1) j _ (by omega) (by omega) (by omega) (by omega) (.inr (by rw [Nat.add_sub_cancel, hy]; exact hxy)) hj (by simp [put]) (by simp [put]) (by simp [put]) (by simp [put]) (by simp [put, s11])
    · have hcx : ¬ c y x < 0 := fun e => hxy (hls.1 e)
      try simp only [hcx, w5, pm, pmW, pmB, ft, ↓reduceIte, reduceCtorEq, nE, nA, nM, nD, nL, iL, iT, iE, iN, iC]
      exact keep i t _ (by omega) (by omega) (by omega) (by omega) hi (.inr (by rw [hy]; exact hxy)) (by simp [put]) (by simp [put]) (by simp [put]) (by simp [put, s10]) (by simp [put])
  · have : j = i := by omega
    subst this
    have lx : m = P.length + 1 := by rw [hm]; rfl
    have le' : e = m + B.length := by rw [he, hm]
    obtain ⟨fin1, fin2⟩ := mergeL (key := key) x B (j - m) sB (by omega) (by
      rcases hi with h | h
      · exact .inl (by omega)
      · by_cases q : j = m
        · exact .inl (by omega)
        · refine .inr ?_
          rw [gB _ (by omega) (by omega), show j - 1 - m = j - m - 1 by omega] at h; exact h) (by
      rcases hj with h | h
      · exact .inl (by omega)
      · by_cases q : j = e
        · exact .inl (by omega)
        · refine .inr ?_
          rw [gB _ (by omega) (by omega)] at h; exact h)
    have w6 : IntKind.i64.wrap ((j : Int) - 1) = ((j - 1 : Nat) : Int) := by rw [wrap_in (by omega) (by omega)]; omega
    have lT : (B.take (j - m)).length = j - m := by rw [List.length_take]; omega
    have eB : L = P ++ [] ++ x :: (B.take (j - m) ++ B.drop (j - m) ++ Q) := by rw [← hLL, List.take_append_drop]; simp
    have lB2 : (B.take (j - m)).length + (B.drop (j - m)).length = B.length := by rw [← List.length_append, List.take_append_drop]
    generalize B.take (j - m) = B1 at *
    generalize B.drop (j - m) = B2 at *
    try simp only [s1, pm, pmW, pmB, ft, ↓reduceIte, reduceCtorEq, nE, nA, nM, nD, nL, iL, iT, iE, iN, iC]
    refine pwp_fall (fun q σ' h3 => ∃ B0 B3 : List (Int), q = B3.length ∧ B0 ++ B3 = B1 ∧ h3 = h'.set b (rowC en1 pre post (P ++ B0 ++ x :: (B3 ++ B2 ++ Q))) ∧ σ' 0 = .buf b 1 pre.length n ∧ σ' 10 = .int .i64 j ∧ σ' 13 = .int .i64 ((P.length + B0.length : Nat) : Int)) B1.length
      ⟨[], B1, rfl, rfl, by rw [Heap.set_self]; rw [hb, eB], by simp [put, s0], by simp [put, s10], by simp [put, ha]⟩ ?_
    rintro q σ' h3 K2 ⟨B0, B3, rfl, hB0, rfl, t0, t10, t13⟩ next2
    have hl3 := congrArg List.length hB0
    rw [List.length_append] at hl3
    cases B3 with
    | nil =>
      have hge : ¬ (((P.length + B0.length : Nat) : Int) < ((j - 1 : Nat) : Int)) := by simp at hl3; omega
      rw [List.append_nil] at hB0
      subst hB0
      try simp only [t10, t13, w6, hge, pm, pmW, pmB, ft, ↓reduceIte, reduceCtorEq, nE, nA, nM, nD, nL, iL, iT, iE, iN, iC]
      have kk := k _ fin1 fin2
      have ee : P ++ (B0 ++ x :: B2) ++ Q = P ++ B0 ++ x :: ([] ++ B2 ++ Q) := by simp
      rw [ee] at kk
      exact finK_rf kk
    | cons y B3 =>
      have hl4 : B0.length + (B3.length + 1) = B1.length := hl3
      have hlt : (((P.length + B0.length : Nat) : Int) < ((j - 1 : Nat) : Int)) := by omega
      have w7 : IntKind.i64.wrap (((P.length + B0.length : Nat) : Int) + 1) = ((P.length + B0.length + 1 : Nat) : Int) := by rw [wrap_in (by omega) (by omega)]; omega
      have lX : (P ++ B0).length = P.length + B0.length := by simp
      have eL : P ++ B0 ++ x :: (y :: B3 ++ B2 ++ Q) = (P ++ B0) ++ x :: y :: (B3 ++ B2 ++ Q) := by simp
      have lL : ((P ++ B0) ++ x :: y :: (B3 ++ B2 ++ Q)).length = n := by simp; omega
      have g1 := get_mid1 (P ++ B0) x y (B3 ++ B2 ++ Q)
      have g0 := get_mid (P ++ B0) x (y :: (B3 ++ B2 ++ Q))
      have u := set_two' (P ++ B0) x y x y (B3 ++ B2 ++ Q)
      rw [eL]
      rw [lX] at g1 g0 u
      have fin3 : P ++ B0 ++ y :: x :: (B3 ++ B2 ++ Q) = P ++ (B0 ++ [y]) ++ x :: (B3 ++ B2 ++ Q) := by simp
      generalize hM : (P ++ B0) ++ x :: y :: (B3 ++ B2 ++ Q) = M at *
      have lj : P.length + B0.length + 1 < n := by omega
      generalize hj2 : P.length + B0.length = z at *
      have k0 : z < n := by omega
      have a1 := rAIn (pre := pre) (post := post) (l := M) (i := z + 1) (by omega)
      have a0 := rAIn (pre := pre) (post := post) (l := M) (i := z) (by omega)
      have b1 := rLIn (pre := pre) (post := post) (l := M) (i := z + 1) (by omega)
      have b0 := rLIn (pre := pre) (post := post) (l := M) (i := z) (by omega)
      have c0 := rWIn (pre := pre) (post := post) (l := M) (i := z) (by omega) y
      have c1 := rWIn (pre := pre) (post := post) (l := M.set z y) (i := z + 1) (by simp; omega) x
      have b2 := rLIn (pre := pre) (post := post) (l := M.set z y) (i := z + 1) (by simp; omega)
      rw [g1] at a1
      rw [g0] at a0
      rw [u] at c1
      try simp only [t0, t10, t13, hlt, w6, w7, lj, k0, a1, a0, b1, b0, b2, c0, c1, pm, pmW, pmB, ft, ↓reduceIte, reduceCtorEq, nE, nA, nM, nD, nL, iL, iT, iE, iN, iC]
      exact next2 _ _ _ (by simp : B3.length < _) ⟨B0 ++ [y], B3, rfl, by simpa using hB0, by rw [fin3], by simp [put, t0], by simp [put, t10], by simp [put]; omega⟩
theorem smBIn (pre post : List PV) (b : Nat) (g : FuncId) (first caps : List PV) (c : Int → Int → Int) (key : Int → Int) (ok : Int → Prop) (hc : CmpIn g first caps c key ok) (P A B Q L : List (Int)) (n a m e : Nat) (hLL : P ++ A ++ B ++ Q = L) (ha : a = P.length) (hm : m = P.length + A.length) (he : e = P.length + A.length + B.length) (hN : n = P.length + A.length + B.length + Q.length)
    (lA : 0 < A.length) (lB : 0 < B.length) (sA : Srt key A) (sB : Srt key B) (okA : ∀ x ∈ A, ok x) (okB : ∀ x ∈ B, ok x) (hn : n ≤ 1000000) (h : Heap) (hb : h.f b = some (rowC en1 pre post L))
    {K : PV → Heap → Prop} (k : ∀ S, Srt key S → Fil key (A ++ B) S → K (.tup []) (h.set b (rowC en1 pre post (P ++ S ++ Q)))) (oneA : ¬ A.length = 1) (oneB : B.length = 1) :
    CanP Tryz.prog 150 [.buf b 1 pre.length n, .int .i64 a, .int .i64 m, .int .i64 e, .fn g first caps] h K := by
  refine e150 rfl ?_
  have w1 : IntKind.i64.wrap ((m : Int) - a) = (A.length : Int) := by rw [wrap_in (by omega) (by omega)]; omega
  have w2 : IntKind.i64.wrap ((e : Int) - m) = (B.length : Int) := by rw [wrap_in (by omega) (by omega)]; omega
  have hL : L.length = n := by rw [← hLL]; simp; omega
  have gA : ∀ i, a ≤ i → i < m → L.getD i default = A.getD (i - a) default := fun i h1 h2 => by
    rw [← hLL, List.append_assoc, List.append_assoc, get_app _ _ (by omega), get_left _ _ (by omega), ha]
  have gB : ∀ i, m ≤ i → i < e → L.getD i default = B.getD (i - m) default := fun i h1 h2 => by
    rw [← hLL, List.append_assoc, get_app _ _ (by simp; omega), get_left _ _ (by simp; omega)]; congr 1; simp; omega
  have okL : ∀ i, a ≤ i → i < e → ok (L.getD i default) := fun i h1 h2 => by
    by_cases q : i < m
    · rw [gA i h1 q]; exact okA _ (get_mem _ (by omega))
    · rw [gB i (by omega) h2]; exact okB _ (get_mem _ (by omega))
  try simp only [c150, r150_0, r150_1, r150_2, r150_3, r150_4, r150_5, r150_6, r150_7, r150_8, r150_9, r150_10, r150_11, r150_12, r150_13, r150_14, r150_15, r150_16, r150_17, r150_18, r150_19, r150_20, r150_21, r150_22, r150_23, r150_24, r150_25, r150_26, r150_27, r150_28, r150_29, r150_30, r150_31, r150_32, r150_33, r150_34, r150_35, r150_36, r150_37, r150_38, r150_39, r150_40, r150_41, r150_42, r150_43, r150_44, w1, hc.o1, hc.o2, pm, pmW, pmB, ft, ↓reduceIte, reduceCtorEq, nE, nA, nM, nD, nL, iL, iT, iE, iN, iC]
  have oneA' : ¬ (A.length : Int) = 1 := by omega
  have oneB' : (B.length : Int) = 1 := by omega
  obtain ⟨y, rfl⟩ := List.length_eq_one_iff.1 oneB
  have gy : L.getD m default = y := by have := gB m (by omega) (by simp at he; omega); simpa [List.getD] using this
  have oky : ok y := okB y (by simp)
  try simp only [oneA', w2, oneB', pm, pmW, pmB, ft, ↓reduceIte, reduceCtorEq, nE, nA, nM, nD, nL, iL, iT, iE, iN, iC]
  refine pwp_fall (fun q σ h' => ∃ i j : Nat, q = j - i ∧ a ≤ i ∧ i ≤ j ∧ j ≤ m ∧ (i = a ∨ ¬ key y < key (L.getD (i - 1) default)) ∧ (j = m ∨ key y < key (L.getD j default)) ∧ h' = h ∧ σ 0 = .buf b 1 pre.length n ∧ σ 2 = .int .i64 m ∧ σ 4 = .fn g first caps ∧ σ 14 = .int .i64 i ∧ σ 15 = .int .i64 j) (m - a)
    ⟨a, m, rfl, by omega, by omega, by omega, .inl rfl, .inl rfl, rfl, rfl, rfl, rfl, rfl, rfl⟩ ?_
  rintro q σ h' K' ⟨i, j, rfl, i0, ij, je, hi, hj, rfl, s0, s2, s4, s14, s15⟩ next
  have w3 : IntKind.i64.wrap ((i : Int) + j) = ((i + j : Nat) : Int) := by rw [wrap_in (by omega) (by omega)]; omega
  have w4 := halfU (a := i) (c := j) (by omega)
  obtain ⟨t, ht⟩ : ∃ t, t = (i + j) / 2 := ⟨_, rfl⟩
  rw [← ht] at w4
  try simp only [s14, s15, w3, w4, cdK_dec, pm, pmW, pmB, ft, ↓reduceIte, reduceCtorEq, nE, nA, nM, nD, nL, iL, iT, iE, iN, iC]
  refine ⟨fun hlt => ?_, fun hge => ?_⟩
  · have t1 : i ≤ t := by omega
    have t2 : t < j := by omega
    have kt : t < n := by omega
    have km : m < n := by omega
    have a1 := rAIn (pre := pre) (post := post) (l := L) (i := t) (by omega)
    have a0 := rAIn (pre := pre) (post := post) (l := L) (i := m) (by omega)
    have b1 := rLIn (pre := pre) (post := post) (l := L) (i := t) (by omega)
    have b0 := rLIn (pre := pre) (post := post) (l := L) (i := m) (by omega)
    rw [gy] at a0
    have okt := okL t (by omega) (by omega)
    have hrun := fun (h : Heap) (K : PV → Heap → Prop) => hc.run y (L.getD t default) h K oky okt
    have hls := hc.less y (L.getD t default) oky okt
    have w5 : IntKind.i64.wrap ((t : Int) + 1) = ((t + 1 : Nat) : Int) := by rw [wrap_in (by omega) (by omega)]; omega
    have keep : ∀ (i' j' : Nat) (σ' : Sl), j' - i' < j - i → a ≤ i' → i' ≤ j' → j' ≤ m → (i' = a ∨ ¬ key y < key (L.getD (i' - 1) default)) → (j' = m ∨ key y < key (L.getD j' default)) → σ' 0 = σ 0 → σ' 2 = σ 2 → σ' 4 = σ 4 → σ' 14 = .int .i64 i' → σ' 15 = .int .i64 j' → K' σ' h' := fun i' j' σ' q1 q2 q3 q4 q5 q6 u0 u2 u4 u14 u15 =>
      next (j' - i') σ' h' q1 ⟨i', j', rfl, q2, q3, q4, q5, q6, rfl, by rw [u0, s0], by rw [u2, s2], by rw [u4, s4], u14, u15⟩
    generalize hx : L.getD t default = x at *
    try simp only [s0, s2, s4, s14, s15, w3, w4, kt, km, a1, a0, b1, b0, hb, pm, pmW, pmB, ft, ↓reduceIte, reduceCtorEq, nE, nA, nM, nD, nL, iL, iT, iE, iN, iC]
    refine ⟨_, hrun _ _ ⟨rfl, rfl⟩, ?_⟩
    by_cases hxy : key y < key x
    · have hcx : c y x < 0 := hls.2 hxy
      try simp only [hcx, w5, pm, pmW, pmB, ft, ↓reduceIte, reduceCtorEq, nE, nA, nM, nD, nL, iL, iT, iE, iN, iC]
      exact keep i t _ (by omega) (by omega) (by omega) (by omega) hi (.inr (by rw [hx]; exact hxy)) (by simp [put]) (by simp [put]) (by simp [put]) (by simp [put, s14]) (by simp [put])
    · have hcx : ¬ c y x < 0 := fun e => hxy (hls.1 e)
      try simp only [hcx, w5, pm, pmW, pmB, ft, ↓reduceIte, reduceCtorEq, nE, nA, nM, nD, nL, iL, iT, iE, iN, iC]
      exact keep (t + 1) j _ (by omega) (by omega) (by omega) (by omega) (.inr (by rw [Nat.add_sub_cancel, hx]; exact hxy)) hj (by simp [put]) (by simp [put]) (by simp [put]) (by simp [put]) (by simp [put, s15])
  · have : j = i := by omega
    subst this
    obtain ⟨fin1, fin2⟩ := mergeR (key := key) y A (j - a) sA (by omega) (by
      rcases hi with h | h
      · exact .inl (by omega)
      · by_cases q : j = a
        · exact .inl (by omega)
        · refine .inr ?_
          rw [gA _ (by omega) (by omega), show j - 1 - a = j - a - 1 by omega] at h; exact h) (by
      rcases hj with h | h
      · exact .inl (by omega)
      · by_cases q : j = m
        · exact .inl (by omega)
        · refine .inr ?_
          rw [gA _ (by omega) (by omega)] at h; exact h)
    have lT : (A.take (j - a)).length = j - a := by rw [List.length_take]; omega
    have eA : L = P ++ A.take (j - a) ++ A.drop (j - a) ++ y :: ([] ++ Q) := by rw [← hLL, List.append_assoc P (A.take (j - a)), List.take_append_drop]; simp
    have lA2 : (A.take (j - a)).length + (A.drop (j - a)).length = A.length := by rw [← List.length_append, List.take_append_drop]
    generalize A.take (j - a) = A1 at *
    generalize A.drop (j - a) = A2 at *
    try simp only [s2, pm, pmW, pmB, ft, ↓reduceIte, reduceCtorEq, nE, nA, nM, nD, nL, iL, iT, iE, iN, iC]
    refine pwp_fall (fun q σ' h3 => ∃ A3 A4 : List (Int), q = A3.length ∧ A3 ++ A4 = A2 ∧ h3 = h'.set b (rowC en1 pre post (P ++ A1 ++ A3 ++ y :: (A4 ++ Q))) ∧ σ' 0 = .buf b 1 pre.length n ∧ σ' 14 = .int .i64 j ∧ σ' 17 = .int .i64 ((j + A3.length : Nat) : Int)) A2.length
      ⟨A2, [], rfl, by simp, by rw [Heap.set_self]; rw [hb, eA], by simp [put, s0], by simp [put, s14], by simp [put]; omega⟩ ?_
    rintro q σ' h3 K2 ⟨A3, A4, rfl, hA3, rfl, t0, t14, t17⟩ next2
    have hl3 := congrArg List.length hA3
    rw [List.length_append] at hl3
    by_cases h3 : A3 = []
    · subst h3
      have hge : ¬ j < j := Nat.lt_irrefl j
      simp only [List.length_nil, Nat.add_zero] at t17
      rw [List.nil_append] at hA3
      subst hA3
      try simp only [t14, t17, hge, pm, pmW, pmB, ft, ↓reduceIte, reduceCtorEq, nE, nA, nM, nD, nL, iL, iT, iE, iN, iC]
      have kk := k _ fin1 fin2
      have ee : P ++ (A1 ++ y :: A4) ++ Q = P ++ A1 ++ y :: (A4 ++ Q) := by simp
      rw [ee] at kk
      exact finK_rf kk
    · obtain ⟨A5, z, rfl⟩ : ∃ A5 z, A3 = A5 ++ [z] := ⟨A3.dropLast, A3.getLast h3, (List.dropLast_concat_getLast h3).symm⟩
      have hl4 : A5.length + 1 + A4.length = A2.length := by rw [← hl3]; simp
      have i1 : j + (A5 ++ [z]).length = j + A5.length + 1 := by simp; omega
      rw [i1] at t17
      have hlt : ((j : Int) < ((j + A5.length + 1 : Nat) : Int)) := by omega
      have w7 : IntKind.i64.wrap (((j + A5.length + 1 : Nat) : Int) - 1) = ((j + A5.length : Nat) : Int) := by rw [wrap_in (by omega) (by omega)]; omega
      have lX : (P ++ A1 ++ A5).length = j + A5.length := by simp; omega
      have eL : P ++ A1 ++ (A5 ++ [z]) ++ y :: (A4 ++ Q) = (P ++ A1 ++ A5) ++ z :: y :: (A4 ++ Q) := by simp
      have lL : ((P ++ A1 ++ A5) ++ z :: y :: (A4 ++ Q)).length = n := by simp; omega
      have g1 := get_mid1 (P ++ A1 ++ A5) z y (A4 ++ Q)
      have g0 := get_mid (P ++ A1 ++ A5) z (y :: (A4 ++ Q))
      have u := set_two (P ++ A1 ++ A5) z y z y (A4 ++ Q)
      rw [eL]
      rw [lX] at g1 g0 u
      have fin3 : P ++ A1 ++ A5 ++ y :: z :: (A4 ++ Q) = P ++ A1 ++ A5 ++ y :: ((z :: A4) ++ Q) := by simp
      generalize hM : (P ++ A1 ++ A5) ++ z :: y :: (A4 ++ Q) = M at *
      have lj : j + A5.length + 1 < n := by omega
      generalize hj2 : j + A5.length = r at *
      have k0 : r < n := by omega
      have a1 := rAIn (pre := pre) (post := post) (l := M) (i := r + 1) (by omega)
      have a0 := rAIn (pre := pre) (post := post) (l := M) (i := r) (by omega)
      have b1 := rLIn (pre := pre) (post := post) (l := M) (i := r + 1) (by omega)
      have b0 := rLIn (pre := pre) (post := post) (l := M) (i := r) (by omega)
      have c1 := rWIn (pre := pre) (post := post) (l := M) (i := r + 1) (by omega) z
      have c0 := rWIn (pre := pre) (post := post) (l := M.set (r + 1) z) (i := r) (by simp; omega) y
      have b2 := rLIn (pre := pre) (post := post) (l := M.set (r + 1) z) (i := r) (by simp; omega)
      rw [g1] at a1
      rw [g0] at a0
      rw [u] at c0
      try simp only [t0, t14, t17, hlt, w7, lj, k0, a1, a0, b1, b0, b2, c0, c1, pm, pmW, pmB, ft, ↓reduceIte, reduceCtorEq, nE, nA, nM, nD, nL, iL, iT, iE, iN, iC]
      exact next2 _ _ _ (by simp : A5.length < _) ⟨A5, z :: A4, rfl, by rw [← hA3]; simp, by rw [fin3], by simp [put, t0], by simp [put, t14], by simp [put]; omega⟩
/-- What the merge does, of so many elements. -/
def SMIn (pre post : List PV) (b : Nat) (g : FuncId) (first caps : List PV) (key : Int → Int) (ok : Int → Prop) (N : Nat) : Prop := ∀ (P A B Q L : List (Int)) (n a m e : Nat), P ++ A ++ B ++ Q = L → a = P.length → m = P.length + A.length → e = P.length + A.length + B.length → n = P.length + A.length + B.length + Q.length →
    0 < A.length → 0 < B.length → A.length + B.length ≤ N → Srt key A → Srt key B → (∀ x ∈ A, ok x) → (∀ x ∈ B, ok x) → n ≤ 1000000 → ∀ (h : Heap), h.f b = some (rowC en1 pre post L) →
    ∀ {K : PV → Heap → Prop}, (∀ S, Srt key S → Fil key (A ++ B) S → K (.tup []) (h.set b (rowC en1 pre post (P ++ S ++ Q)))) →
    CanP Tryz.prog 150 [.buf b 1 pre.length n, .int .i64 a, .int .i64 m, .int .i64 e, .fn g first caps] h K
def smTIn : Nat → PC → PC
  | 0, p => p
  | n + 1, .seq _ q => smTIn n q
  | _, p => p
def smEIn : PC := smTIn 11 c150
def sm10In : PC := smTIn 10 c150
def sm9In : PC := smTIn 9 c150
def sm8In : PC := smTIn 8 c150
def sm7In : PC := smTIn 7 c150
theorem sm10eIn : sm10In = .seq (.seq (.reg false r150_41) (.cond (.tmp 199) (.reg false r150_42) .skip)) smEIn := rfl
theorem sm9eIn : sm9In = .seq (.seq (.reg false r150_39) (.cond (.tmp 185) (.reg false r150_40) .skip)) sm10In := rfl
theorem sm8eIn : sm8In = .seq (.reg false r150_38) sm9In := rfl
theorem sm7eIn : sm7In = .seq (.block 8 (.loop (.seq (.seq (.reg false r150_33) (.cond (.tmp 151) .skip (.exit 8))) (.block 9 (.seq (.reg false r150_34) (.seq (.reg true r150_35) (.cond (.tmp 171) (.reg false r150_36) (.reg false r150_37)))))))) sm8In := rfl
theorem sm0eIn : c150 = .seq (.seq (.reg false r150_0) (.cond (.tmp 28) (.seq (.reg false r150_1) (.seq (.reg false r150_2) (.seq (.block 0 (.loop (.seq (.seq (.reg false r150_3) (.cond (.tmp 33) .skip (.exit 0))) (.block 1 (.seq (.reg false r150_4) (.seq (.reg true r150_5) (.cond (.tmp 50) (.reg false r150_6) (.reg false r150_7)))))))) (.seq (.seq (.reg false r150_8) (.block 2 (.loop (.seq (.seq (.reg false r150_9) (.cond (.tmp 58) .skip (.exit 2))) (.seq (.block 3 (.reg true r150_10)) (.reg false r150_11)))))) .ret)))) .skip)) (.seq (.seq (.reg false r150_12) (.cond (.tmp 80) (.seq (.reg false r150_13) (.seq (.reg false r150_14) (.seq (.block 4 (.loop (.seq (.seq (.reg false r150_15) (.cond (.tmp 85) .skip (.exit 4))) (.block 5 (.seq (.reg false r150_16) (.seq (.reg true r150_17) (.cond (.tmp 103) (.reg false r150_18) (.reg false r150_19)))))))) (.seq (.seq (.reg false r150_20) (.block 6 (.loop (.seq (.seq (.reg false r150_21) (.cond (.tmp 110) .skip (.exit 6))) (.seq (.block 7 (.reg true r150_22)) (.reg false r150_23)))))) .ret)))) .skip)) (.seq (.reg false r150_24) (.seq (.reg false r150_25) (.seq (.reg false r150_26) (.seq (.seq (.reg false r150_27) (.cond (.tmp 140) (.seq (.reg false r150_28) (.reg false r150_29)) (.seq (.reg false r150_30) (.reg false r150_31)))) (.seq (.reg false r150_32) sm7In)))))) := rfl
/-- The second half, merged. -/
theorem smEndIn (pre post : List PV) (b : Nat) (g : FuncId) (first caps : List PV) (c : Int → Int → Int) (key : Int → Int) (ok : Int → Prop) (hc : CmpIn g first caps c key ok) (N : Nat) (ih : SMIn pre post b g first caps key ok N) (P A B Q : List (Int)) (n mid E e : Nat) (ha : mid = P.length) (hm : E = P.length + A.length) (he : e = P.length + A.length + B.length) (hN : n = P.length + A.length + B.length + Q.length)
    (hsz : A.length + B.length ≤ N) (sA : Srt key A) (sB : Srt key B) (okA : ∀ x ∈ A, ok x) (okB : ∀ x ∈ B, ok x) (hn : n ≤ 1000000) (h0 h : Heap) (hb : h.f b = some (rowC en1 pre post (P ++ A ++ B ++ Q)))
    {K : PV → Heap → Prop} (k : ∀ S, Srt key S → Fil key (A ++ B) S → K (.tup []) (h.set b (rowC en1 pre post (P ++ S ++ Q)))) (σ : Sl) (t0 : σ 0 = .buf b 1 pre.length n) (t3 : σ 3 = .int .i64 e) (t4 : σ 4 = .fn g first caps) (t18 : σ 18 = .int .i64 mid) (t24 : σ 24 = .int .i64 E) :
    pwp Tryz.prog [] smEIn (fin Tryz.prog [] h0 K) σ h := by
  unfold smEIn
  try simp only [smTIn, c150, r150_0, r150_1, r150_2, r150_3, r150_4, r150_5, r150_6, r150_7, r150_8, r150_9, r150_10, r150_11, r150_12, r150_13, r150_14, r150_15, r150_16, r150_17, r150_18, r150_19, r150_20, r150_21, r150_22, r150_23, r150_24, r150_25, r150_26, r150_27, r150_28, r150_29, r150_30, r150_31, r150_32, r150_33, r150_34, r150_35, r150_36, r150_37, r150_38, r150_39, r150_40, r150_41, r150_42, r150_43, r150_44, pm, pmW, pmB, ft, ↓reduceIte, reduceCtorEq, nE, nA, nM, nD, nL, iL, iT, iE, iN, iC]
  by_cases g1 : mid < E
  · by_cases g2 : E < e
    · try simp only [t0, t3, t4, t18, t24, g1, g2, pm, pmW, pmB, ft, ↓reduceIte, reduceCtorEq, nE, nA, nM, nD, nL, iL, iT, iE, iN, iC]
      refine ih P A B Q _ n mid E e rfl ha hm he hN (by omega) (by omega) hsz sA sB okA okB hn _ hb fun S s f => ?_
      try simp only [pm, pmW, pmB, ft, ↓reduceIte, reduceCtorEq, nE, nA, nM, nD, nL, iL, iT, iE, iN, iC]
      exact finK_rf (k S s f)
    · have : B = [] := List.length_eq_zero_iff.1 (by omega)
      subst this
      have kk := k A sA (by rw [List.append_nil]; exact Fil.refl _)
      rw [Heap.set_self (by rw [hb]; simp)] at kk
      try simp only [t0, t3, t4, t18, t24, g1, g2, pm, pmW, pmB, ft, ↓reduceIte, reduceCtorEq, nE, nA, nM, nD, nL, iL, iT, iE, iN, iC]
      exact finK_rf kk
  · have : A = [] := List.length_eq_zero_iff.1 (by omega)
    subst this
    have kk := k B sB (by rw [List.nil_append]; exact Fil.refl _)
    rw [Heap.set_self (by rw [hb]; simp)] at kk
    try simp only [t0, t3, t4, t18, t24, g1, pm, pmW, pmB, ft, ↓reduceIte, reduceCtorEq, nE, nA, nM, nD, nL, iL, iT, iE, iN, iC]
    exact finK_rf kk
/-- The first half, merged. -/
theorem smFstIn (pre post : List PV) (b : Nat) (g : FuncId) (first caps : List PV) (c : Int → Int → Int) (key : Int → Int) (ok : Int → Prop) (hc : CmpIn g first caps c key ok) (N : Nat) (ih : SMIn pre post b g first caps key ok N) (P A B Q : List (Int)) (n a j mid : Nat) (ha : a = P.length) (hm : j = P.length + A.length) (he : mid = P.length + A.length + B.length) (hN : n = P.length + A.length + B.length + Q.length)
    (hsz : A.length + B.length ≤ N) (sA : Srt key A) (sB : Srt key B) (okA : ∀ x ∈ A, ok x) (okB : ∀ x ∈ B, ok x) (hn : n ≤ 1000000) (h : Heap) (hb : h.f b = some (rowC en1 pre post (P ++ A ++ B ++ Q)))
    {W : Exit → Sl → Heap → Prop} (σ : Sl) (t0 : σ 0 = .buf b 1 pre.length n) (t1 : σ 1 = .int .i64 a) (t4 : σ 4 = .fn g first caps) (t18 : σ 18 = .int .i64 mid) (t20 : σ 20 = .int .i64 j)
    (k : ∀ S, Srt key S → Fil key (A ++ B) S → ∀ σ' : Sl, σ' 0 = σ 0 → σ' 3 = σ 3 → σ' 4 = σ 4 → σ' 18 = σ 18 → σ' 24 = σ 24 → pwp Tryz.prog [] smEIn W σ' (h.set b (rowC en1 pre post (P ++ S ++ Q)))) :
    pwp Tryz.prog [] sm10In W σ h := by
  rw [sm10eIn]
  try simp only [c150, r150_0, r150_1, r150_2, r150_3, r150_4, r150_5, r150_6, r150_7, r150_8, r150_9, r150_10, r150_11, r150_12, r150_13, r150_14, r150_15, r150_16, r150_17, r150_18, r150_19, r150_20, r150_21, r150_22, r150_23, r150_24, r150_25, r150_26, r150_27, r150_28, r150_29, r150_30, r150_31, r150_32, r150_33, r150_34, r150_35, r150_36, r150_37, r150_38, r150_39, r150_40, r150_41, r150_42, r150_43, r150_44, pm, pmW, pmB, ft, ↓reduceIte, reduceCtorEq, nE, nA, nM, nD, nL, iL, iT, iE, iN, iC]
  by_cases g1 : a < j
  · by_cases g2 : j < mid
    · try simp only [t0, t1, t4, t18, t20, g1, g2, pm, pmW, pmB, ft, ↓reduceIte, reduceCtorEq, nE, nA, nM, nD, nL, iL, iT, iE, iN, iC]
      refine ih P A B Q _ n a j mid rfl ha hm he hN (by omega) (by omega) hsz sA sB okA okB hn _ hb fun S s f => ?_
      try simp only [pm, pmW, pmB, ft, ↓reduceIte, reduceCtorEq, nE, nA, nM, nD, nL, iL, iT, iE, iN, iC]
      exact k S s f _ (by simp [put]) (by simp [put]) (by simp [put]) (by simp [put]) (by simp [put])
    · have : B = [] := List.length_eq_zero_iff.1 (by omega)
      subst this
      have kk := k A sA (by rw [List.append_nil]; exact Fil.refl _)
      rw [Heap.set_self (by rw [hb]; simp)] at kk
      try simp only [t0, t1, t4, t18, t20, g1, g2, pm, pmW, pmB, ft, ↓reduceIte, reduceCtorEq, nE, nA, nM, nD, nL, iL, iT, iE, iN, iC]
      exact kk _ (by simp [put]) (by simp [put]) (by simp [put]) (by simp [put]) (by simp [put])
  · have : A = [] := List.length_eq_zero_iff.1 (by omega)
    subst this
    have kk := k B sB (by rw [List.nil_append]; exact Fil.refl _)
    rw [Heap.set_self (by rw [hb]; simp)] at kk
    try simp only [t0, t1, t4, t18, t20, g1, pm, pmW, pmB, ft, ↓reduceIte, reduceCtorEq, nE, nA, nM, nD, nL, iL, iT, iE, iN, iC]
    exact kk _ (by simp [put]) (by simp [put]) (by simp [put]) (by simp [put]) (by simp [put])
/-- What lies in the middle changes places. -/
theorem smRotIn (pre post : List PV) (b : Nat) (g : FuncId) (first caps : List PV) (o1 : olds first = first) (o2 : olds caps = caps) (P A B Q : List (Int)) (n j m E : Nat) (ha : j = P.length) (hm : m = P.length + A.length) (he : E = P.length + A.length + B.length) (hN : n = P.length + A.length + B.length + Q.length)
    (hn : n ≤ 1000000) (h : Heap) (hb : h.f b = some (rowC en1 pre post (P ++ A ++ B ++ Q)))
    {W : Exit → Sl → Heap → Prop} (σ : Sl) (t0 : σ 0 = .buf b 1 pre.length n) (t2 : σ 2 = .int .i64 m) (t4 : σ 4 = .fn g first caps) (t20 : σ 20 = .int .i64 j) (t24 : σ 24 = .int .i64 E)
    (k : ∀ σ' : Sl, σ' 0 = σ 0 → σ' 1 = σ 1 → σ' 3 = σ 3 → σ' 4 = σ 4 → σ' 18 = σ 18 → σ' 20 = σ 20 → σ' 24 = σ 24 → pwp Tryz.prog [] sm10In W σ' (h.set b (rowC en1 pre post (P ++ B ++ A ++ Q)))) :
    pwp Tryz.prog [] sm9In W σ h := by
  rw [sm9eIn]
  try simp only [c150, r150_0, r150_1, r150_2, r150_3, r150_4, r150_5, r150_6, r150_7, r150_8, r150_9, r150_10, r150_11, r150_12, r150_13, r150_14, r150_15, r150_16, r150_17, r150_18, r150_19, r150_20, r150_21, r150_22, r150_23, r150_24, r150_25, r150_26, r150_27, r150_28, r150_29, r150_30, r150_31, r150_32, r150_33, r150_34, r150_35, r150_36, r150_37, r150_38, r150_39, r150_40, r150_41, r150_42, r150_43, r150_44, pm, pmW, pmB, ft, ↓reduceIte, reduceCtorEq, nE, nA, nM, nD, nL, iL, iT, iE, iN, iC]
  by_cases g1 : j < m
  · by_cases g2 : m < E
    · try simp only [t0, t2, t4, t20, t24, g1, g2, pm, pmW, pmB, ft, ↓reduceIte, reduceCtorEq, nE, nA, nM, nD, nL, iL, iT, iE, iN, iC]
      refine rotateIn pre post b g first caps o1 o2 P A B Q n j m E ha hm he hN (by omega) (by omega) hn _ hb ?_
      try simp only [pm, pmW, pmB, ft, ↓reduceIte, reduceCtorEq, nE, nA, nM, nD, nL, iL, iT, iE, iN, iC]
      exact k _ (by simp [put]) (by simp [put]) (by simp [put]) (by simp [put]) (by simp [put]) (by simp [put]) (by simp [put])
    · have : B = [] := List.length_eq_zero_iff.1 (by omega)
      subst this
      rw [Heap.set_self (by rw [hb]; simp)] at k
      try simp only [t0, t2, t4, t20, t24, g1, g2, pm, pmW, pmB, ft, ↓reduceIte, reduceCtorEq, nE, nA, nM, nD, nL, iL, iT, iE, iN, iC]
      exact k _ (by simp [put]) (by simp [put]) (by simp [put]) (by simp [put]) (by simp [put]) (by simp [put]) (by simp [put])
  · have : A = [] := List.length_eq_zero_iff.1 (by omega)
    subst this
    rw [Heap.set_self (by rw [hb]; simp)] at k
    try simp only [t0, t2, t4, t20, t24, g1, pm, pmW, pmB, ft, ↓reduceIte, reduceCtorEq, nE, nA, nM, nD, nL, iL, iT, iE, iN, iC]
    exact k _ (by simp [put]) (by simp [put]) (by simp [put]) (by simp [put]) (by simp [put]) (by simp [put]) (by simp [put])
/-- Where the parts are cut. -/
theorem smCutIn (pre post : List PV) (b : Nat) (g : FuncId) (first caps : List PV) (c : Int → Int → Int) (key : Int → Int) (ok : Int → Prop) (hc : CmpIn g first caps c key ok) (L : List (Int)) (n a m e mid s0 r0 : Nat) (hL : L.length = n) (hn : n ≤ 1000000) (okL : ∀ i, a ≤ i → i < e → ok (L.getD i default)) (he : e ≤ n) (f1 : a ≤ s0) (f2 : s0 ≤ r0) (f3 : r0 ≤ m) (f4 : r0 ≤ mid) (f5 : mid + m ≤ e + s0) (f8 : a ≤ m) (f9 : mid ≤ e) (f10 : m ≤ e) (h : Heap) (hb : h.f b = some (rowC en1 pre post L))
    {W : Exit → Sl → Heap → Prop} (σ : Sl) (t0 : σ 0 = .buf b 1 pre.length n) (t4 : σ 4 = .fn g first caps) (t20 : σ 20 = .int .i64 s0) (t21 : σ 21 = .int .i64 r0) (t22 : σ 22 = .int .i64 ((mid + m - 1 : Nat) : Int))
    (k : ∀ s : Nat, s0 ≤ s → s ≤ r0 → (s = s0 ∨ key (L.getD (s - 1) default) ≤ key (L.getD (mid + m - 1 - (s - 1)) default)) → (s = r0 ∨ key (L.getD (mid + m - 1 - s) default) < key (L.getD s default)) → ∀ σ' : Sl, σ' 0 = σ 0 → σ' 1 = σ 1 → σ' 2 = σ 2 → σ' 3 = σ 3 → σ' 4 = σ 4 → σ' 18 = σ 18 → σ' 19 = σ 19 → σ' 20 = .int .i64 s → pwp Tryz.prog [] sm8In W σ' h) :
    pwp Tryz.prog [] sm7In W σ h := by
  rw [sm7eIn]
  try simp only [c150, r150_0, r150_1, r150_2, r150_3, r150_4, r150_5, r150_6, r150_7, r150_8, r150_9, r150_10, r150_11, r150_12, r150_13, r150_14, r150_15, r150_16, r150_17, r150_18, r150_19, r150_20, r150_21, r150_22, r150_23, r150_24, r150_25, r150_26, r150_27, r150_28, r150_29, r150_30, r150_31, r150_32, r150_33, r150_34, r150_35, r150_36, r150_37, r150_38, r150_39, r150_40, r150_41, r150_42, r150_43, r150_44, pm, pmW, pmB, ft, ↓reduceIte, reduceCtorEq, nE, nA, nM, nD, nL, iL, iT, iE, iN, iC]
  refine pwp_fall (fun q σ' h' => ∃ s r : Nat, q = r - s ∧ s0 ≤ s ∧ s ≤ r ∧ r ≤ r0 ∧ (s = s0 ∨ key (L.getD (s - 1) default) ≤ key (L.getD (mid + m - 1 - (s - 1)) default)) ∧ (r = r0 ∨ key (L.getD (mid + m - 1 - r) default) < key (L.getD r default)) ∧ h' = h ∧ σ' 0 = σ 0 ∧ σ' 1 = σ 1 ∧ σ' 2 = σ 2 ∧ σ' 3 = σ 3 ∧ σ' 4 = σ 4 ∧ σ' 18 = σ 18 ∧ σ' 19 = σ 19 ∧ σ' 20 = .int .i64 s ∧ σ' 21 = .int .i64 r ∧ σ' 22 = .int .i64 ((mid + m - 1 : Nat) : Int)) (r0 - s0)
    ⟨s0, r0, rfl, by omega, by omega, by omega, .inl rfl, .inl rfl, rfl, rfl, rfl, rfl, rfl, rfl, rfl, rfl, t20, t21, t22⟩ ?_
  rintro q σ' h' K' ⟨s, r, rfl, p1, p2, p3, p4, p5, rfl, v0, v1, v2, v3, v4, v18, v19, v20, v21, v22⟩ next
  rw [t0] at v0
  rw [t4] at v4
  have u3 : IntKind.i64.wrap ((s : Int) + r) = ((s + r : Nat) : Int) := by rw [wrap_in (by omega) (by omega)]; omega
  have u4 := halfU (a := s) (c := r) (by omega)
  obtain ⟨t, ht⟩ : ∃ t, t = (s + r) / 2 := ⟨_, rfl⟩
  rw [← ht] at u4
  try simp only [v20, v21, u3, u4, cdK_dec, pm, pmW, pmB, ft, ↓reduceIte, reduceCtorEq, nE, nA, nM, nD, nL, iL, iT, iE, iN, iC]
  refine ⟨fun hlt => ?_, fun hge => ?_⟩
  · have z1 : s ≤ t := by omega
    have z2 : t < r := by omega
    have kt : t < n := by omega
    have kp : mid + m - 1 - t < n := by omega
    have u5 : IntKind.i64.wrap (((mid + m - 1 : Nat) : Int) - t) = ((mid + m - 1 - t : Nat) : Int) := by rw [wrap_in (by omega) (by omega)]; omega
    have u6 : IntKind.i64.wrap ((t : Int) + 1) = ((t + 1 : Nat) : Int) := by rw [wrap_in (by omega) (by omega)]; omega
    have a1 := rAIn (pre := pre) (post := post) (l := L) (i := t) (by omega)
    have a0 := rAIn (pre := pre) (post := post) (l := L) (i := mid + m - 1 - t) (by omega)
    have b1 := rLIn (pre := pre) (post := post) (l := L) (i := t) (by omega)
    have b0 := rLIn (pre := pre) (post := post) (l := L) (i := mid + m - 1 - t) (by omega)
    have okt := okL t (by omega) (by omega)
    have okp := okL (mid + m - 1 - t) (by omega) (by omega)
    have hrun := fun (h : Heap) (K : PV → Heap → Prop) => hc.run (L.getD (mid + m - 1 - t) default) (L.getD t default) h K okp okt
    have hls := hc.less (L.getD (mid + m - 1 - t) default) (L.getD t default) okp okt
    have keep : ∀ (s' r' : Nat) (σ2 : Sl), r' - s' < r - s → s0 ≤ s' → s' ≤ r' → r' ≤ r0 → (s' = s0 ∨ key (L.getD (s' - 1) default) ≤ key (L.getD (mid + m - 1 - (s' - 1)) default)) → (r' = r0 ∨ key (L.getD (mid + m - 1 - r') default) < key (L.getD r' default)) → σ2 0 = σ' 0 → σ2 1 = σ' 1 → σ2 2 = σ' 2 → σ2 3 = σ' 3 → σ2 4 = σ' 4 → σ2 18 = σ' 18 → σ2 19 = σ' 19 → σ2 20 = .int .i64 s' → σ2 21 = .int .i64 r' → σ2 22 = σ' 22 → K' σ2 h' := fun s' r' σ2 q1 q2 q3 q4 q5 q6 x0 x1 x2 x3 x4 x18 x19 x20 x21 x22 =>
      next (r' - s') σ2 h' q1 ⟨s', r', rfl, q2, q3, q4, q5, q6, rfl, by rw [x0, v0, t0], by rw [x1, v1], by rw [x2, v2], by rw [x3, v3], by rw [x4, v4, t4], by rw [x18, v18], by rw [x19, v19], x20, x21, by rw [x22, v22]⟩
    generalize hx : L.getD (mid + m - 1 - t) default = x at *
    generalize hy : L.getD t default = y at *
    try simp only [v0, v4, v20, v21, v22, u3, u4, u5, kt, kp, a1, a0, b1, b0, hb, pm, pmW, pmB, ft, ↓reduceIte, reduceCtorEq, nE, nA, nM, nD, nL, iL, iT, iE, iN, iC]
    refine ⟨_, hrun _ _ ⟨rfl, rfl⟩, ?_⟩
    by_cases hxy : key x < key y
    · have hcx : c x y < 0 := hls.2 hxy
      try simp only [hcx, u6, pm, pmW, pmB, ft, ↓reduceIte, reduceCtorEq, nE, nA, nM, nD, nL, iL, iT, iE, iN, iC]
      exact keep s t _ (by omega) (by omega) (by omega) (by omega) p4 (.inr (by rw [hx, hy]; exact hxy)) (by simp [put]) (by simp [put]) (by simp [put]) (by simp [put]) (by simp [put]) (by simp [put]) (by simp [put]) (by simp [put, v20]) (by simp [put]) (by simp [put])
    · have hcx : ¬ c x y < 0 := fun e => hxy (hls.1 e)
      try simp only [hcx, u6, pm, pmW, pmB, ft, ↓reduceIte, reduceCtorEq, nE, nA, nM, nD, nL, iL, iT, iE, iN, iC]
      exact keep (t + 1) r _ (by omega) (by omega) (by omega) (by omega) (.inr (by rw [Nat.add_sub_cancel, hx, hy]; omega)) p5 (by simp [put]) (by simp [put]) (by simp [put]) (by simp [put]) (by simp [put]) (by simp [put]) (by simp [put]) (by simp [put]) (by simp [put, v21]) (by simp [put])
  · have esr : r = s := by omega
    subst esr
    try simp only [pm, pmW, pmB, ft, ↓reduceIte, reduceCtorEq, nE, nA, nM, nD, nL, iL, iT, iE, iN, iC]
    exact k r p1 p3 p4 p5 _ (by simp [put, v0, t0]) (by simp [put, v1]) (by simp [put, v2]) (by simp [put, v3]) (by simp [put, v4, t4]) (by simp [put, v18]) (by simp [put, v19]) (by simp [put, v20])
theorem symMergeIn (pre post : List PV) (b : Nat) (g : FuncId) (first caps : List PV) (c : Int → Int → Int) (key : Int → Int) (ok : Int → Prop) (hc : CmpIn g first caps c key ok) : ∀ N, SMIn pre post b g first caps key ok N := by
  intro N
  induction N with
  | zero => intro P A B Q L n a m e _ _ _ _ _ l1 l2 l3; omega
  | succ N ih =>
  intro P A B Q L n a m e hLL ha hm he hN lA lB hsz sA sB okA okB hn h hb K k
  by_cases oneA : A.length = 1
  · exact smAIn pre post b g first caps c key ok hc P A B Q L n a m e hLL ha hm he hN lA lB sA sB okA okB hn h hb k oneA
  by_cases oneB : B.length = 1
  · exact smBIn pre post b g first caps c key ok hc P A B Q L n a m e hLL ha hm he hN lA lB sA sB okA okB hn h hb k oneA oneB
  refine e150 rfl ?_
  have w1 : IntKind.i64.wrap ((m : Int) - a) = (A.length : Int) := by rw [wrap_in (by omega) (by omega)]; omega
  have w2 : IntKind.i64.wrap ((e : Int) - m) = (B.length : Int) := by rw [wrap_in (by omega) (by omega)]; omega
  have hL : L.length = n := by rw [← hLL]; simp; omega
  have gA : ∀ i, a ≤ i → i < m → L.getD i default = A.getD (i - a) default := fun i h1 h2 => by
    rw [← hLL, List.append_assoc, List.append_assoc, get_app _ _ (by omega), get_left _ _ (by omega), ha]
  have gB : ∀ i, m ≤ i → i < e → L.getD i default = B.getD (i - m) default := fun i h1 h2 => by
    rw [← hLL, List.append_assoc, get_app _ _ (by simp; omega), get_left _ _ (by simp; omega)]; congr 1; simp; omega
  have okL : ∀ i, a ≤ i → i < e → ok (L.getD i default) := fun i h1 h2 => by
    by_cases q : i < m
    · rw [gA i h1 q]; exact okA _ (get_mem _ (by omega))
    · rw [gB i (by omega) h2]; exact okB _ (get_mem _ (by omega))
  have oneA' : ¬ (A.length : Int) = 1 := by omega
  have oneB' : ¬ (B.length : Int) = 1 := by omega
  have w3 : IntKind.i64.wrap ((a : Int) + e) = ((a + e : Nat) : Int) := by rw [wrap_in (by omega) (by omega)]; omega
  have w4 := halfU (a := a) (c := e) (by omega)
  obtain ⟨mid, hmid⟩ : ∃ mid, mid = (a + e) / 2 := ⟨_, rfl⟩
  rw [← hmid] at w4
  have w5 : IntKind.i64.wrap ((mid : Int) + m) = ((mid + m : Nat) : Int) := by rw [wrap_in (by omega) (by omega)]; omega
  have w6 : IntKind.i64.wrap (((mid + m : Nat) : Int) - 1) = ((mid + m - 1 : Nat) : Int) := by rw [wrap_in (by omega) (by omega)]; omega
  -- what comes behind the search
  have rest : ∀ (s0 r0 : Nat), a ≤ s0 → s0 ≤ r0 → r0 ≤ m → r0 ≤ mid → mid + m ≤ e + s0 → (s0 = a ∨ s0 + e = mid + m) → (r0 = m ∨ r0 = mid) → ∀ σ : Sl, σ 0 = .buf b 1 pre.length n → σ 1 = .int .i64 a → σ 2 = .int .i64 m → σ 3 = .int .i64 e → σ 4 = .fn g first caps → σ 18 = .int .i64 mid → σ 19 = .int .i64 ((mid + m : Nat) : Int) → σ 20 = .int .i64 s0 → σ 21 = .int .i64 r0 → σ 22 = .int .i64 ((mid + m - 1 : Nat) : Int) →
      pwp Tryz.prog [] sm7In (fin Tryz.prog [] h K) σ h := fun s0 r0 f1 f2 f3 f4 f5 f6 f7 σ t0 t1 t2 t3 t4 t18 t19 t20 t21 t22 => by
    refine smCutIn pre post b g first caps c key ok hc L n a m e mid s0 r0 hL hn okL (by omega) f1 f2 f3 f4 f5 (by omega) (by omega) (by omega) h hb σ t0 t4 t20 t21 t22 fun s p1 p3 p4 p5 σ' v0 v1 v2 v3 v4 v18 v19 v20 => ?_
    have z := merge2 (key := key) A B (s - a) (mid + m - s - m) sA sB (by omega) (by omega) (by
      rcases p4 with p4 | p4
      · rcases f6 with q6 | q6
        · exact .inl (by omega)
        · exact .inr (.inl (by omega))
      · by_cases x1 : s = a
        · exact .inl (by omega)
        · by_cases x2 : mid + m - s = e
          · exact .inr (.inl (by omega))
          · rw [gA _ (by omega) (by omega), show mid + m - 1 - (s - 1) = mid + m - s by omega, gB _ (by omega) (by omega), show s - 1 - a = s - a - 1 by omega] at p4
            exact .inr (.inr p4)) (by
      rcases p5 with p5 | p5
      · rcases f7 with q7 | q7
        · exact .inl (by omega)
        · exact .inr (.inl (by omega))
      · by_cases x1 : s = m
        · exact .inl (by omega)
        · by_cases x2 : mid + m - s = m
          · exact .inr (.inl (by omega))
          · rw [gA s (by omega) (by omega), show mid + m - 1 - s = mid + m - s - 1 by omega, gB _ (by omega) (by omega), show mid + m - s - 1 - m = mid + m - s - m - 1 by omega] at p5
            exact .inr (.inr p5))
    obtain ⟨A1, A2, B1, B2, rfl, rfl, j1, j2, c1, c2⟩ : ∃ A1 A2 B1 B2, A = A1 ++ A2 ∧ B = B1 ++ B2 ∧ s = a + A1.length ∧ mid + m - s = m + B1.length ∧ (∀ x ∈ A1, ∀ y ∈ B2, key x ≤ key y) ∧ (∀ y ∈ B1, ∀ x ∈ A2, key y < key x) :=
      ⟨A.take (s - a), A.drop (s - a), B.take (mid + m - s - m), B.drop (mid + m - s - m), (List.take_append_drop _ _).symm, (List.take_append_drop _ _).symm, by rw [List.length_take]; omega, by rw [List.length_take]; omega, z.1, z.2⟩
    clear z p4 p5 gA gB okL
    simp only [List.length_append] at hm he hN lA lB hsz
    obtain ⟨E, hE⟩ : ∃ E, E = mid + m - s := ⟨_, rfl⟩
    have u8 : IntKind.i64.wrap (((mid + m : Nat) : Int) - s) = (E : Int) := by rw [wrap_in (by omega) (by omega)]; omega
    rw [← hE] at j2
    rw [sm8eIn]
    rw [t0] at v0
    rw [t1] at v1
    rw [t2] at v2
    rw [t3] at v3
    rw [t4] at v4
    rw [t18] at v18
    rw [t19] at v19
    try simp only [c150, r150_0, r150_1, r150_2, r150_3, r150_4, r150_5, r150_6, r150_7, r150_8, r150_9, r150_10, r150_11, r150_12, r150_13, r150_14, r150_15, r150_16, r150_17, r150_18, r150_19, r150_20, r150_21, r150_22, r150_23, r150_24, r150_25, r150_26, r150_27, r150_28, r150_29, r150_30, r150_31, r150_32, r150_33, r150_34, r150_35, r150_36, r150_37, r150_38, r150_39, r150_40, r150_41, r150_42, r150_43, r150_44, v19, v20, u8, pm, pmW, pmB, ft, ↓reduceIte, reduceCtorEq, nE, nA, nM, nD, nL, iL, iT, iE, iN, iC]
    refine smRotIn pre post b g first caps hc.o1 hc.o2 (P ++ A1) A2 B1 (B2 ++ Q) n s m E (by simp; omega) (by simp; omega) (by simp; omega) (by simp; omega) hn h (by rw [hb, ← hLL]; simp) _ (by simp [put, v0]) (by simp [put, v2]) (by simp [put, v4]) (by simp [put, v20]) (by simp [put]) fun σ2 y0 y1 y3 y4 y18 y20 y24 => ?_
    have y0 : σ2 0 = .buf b 1 pre.length n := by rw [y0]; simp [put, v0]
    have y1 : σ2 1 = .int .i64 a := by rw [y1]; simp [put, v1]
    have y3 : σ2 3 = .int .i64 e := by rw [y3]; simp [put, v3]
    have y4 : σ2 4 = .fn g first caps := by rw [y4]; simp [put, v4]
    have y18 : σ2 18 = .int .i64 mid := by rw [y18]; simp [put, v18]
    have y20 : σ2 20 = .int .i64 s := by rw [y20]; simp [put, v20]
    have y24 : σ2 24 = .int .i64 E := by rw [y24]; simp [put]
    refine smFstIn pre post b g first caps c key ok hc N ih P A1 B1 (A2 ++ B2 ++ Q) n a s mid ha (by omega) (by omega) (by simp; omega) (by omega) sA.left sB.left (fun x hx => okA x (by simp [hx])) (fun x hx => okB x (by simp [hx])) hn _ (by rw [Heap.set_same]; simp) σ2 y0 y1 y4 y18 y20 fun S1 s1' f1' σ3 x0 x3 x4 x18 x24 => ?_
    have lS1 : S1.length = A1.length + B1.length := by rw [← f1'.length]; simp
    rw [Heap.set_set]
    refine smEndIn pre post b g first caps c key ok hc N ih (P ++ S1) A2 B2 Q n mid E e (by simp; omega) (by simp; omega) (by simp; omega) (by simp; omega) (by omega) sA.right sB.right (fun x hx => okA x (by simp [hx])) (fun x hx => okB x (by simp [hx])) hn h _ (by rw [Heap.set_same]; simp) (fun S2 s2' f2' => ?_) σ3 (by rw [x0, y0]) (by rw [x3, y3]) (by rw [x4, y4]) (by rw [x18, y18]) (by rw [x24, y24])
    rw [Heap.set_set]
    obtain ⟨m1, m2⟩ := merge3 s1' f1' s2' f2' sA sB c1 c2
    have := k _ m1 m2
    rwa [← List.append_assoc] at this
  rw [sm0eIn]
  try simp only [c150, r150_0, r150_1, r150_2, r150_3, r150_4, r150_5, r150_6, r150_7, r150_8, r150_9, r150_10, r150_11, r150_12, r150_13, r150_14, r150_15, r150_16, r150_17, r150_18, r150_19, r150_20, r150_21, r150_22, r150_23, r150_24, r150_25, r150_26, r150_27, r150_28, r150_29, r150_30, r150_31, r150_32, r150_33, r150_34, r150_35, r150_36, r150_37, r150_38, r150_39, r150_40, r150_41, r150_42, r150_43, r150_44, w1, w2, hc.o1, hc.o2, oneA', oneB', w3, w4, w5, pm, pmW, pmB, ft, ↓reduceIte, reduceCtorEq, nE, nA, nM, nD, nL, iL, iT, iE, iN, iC]
  by_cases gm : mid < m
  · have w7 : IntKind.i64.wrap (((mid + m : Nat) : Int) - e) = ((mid + m - e : Nat) : Int) := by rw [wrap_in (by omega) (by omega)]; omega
    try simp only [gm, w6, w7, pm, pmW, pmB, ft, ↓reduceIte, reduceCtorEq, nE, nA, nM, nD, nL, iL, iT, iE, iN, iC]
    exact rest (mid + m - e) mid (by omega) (by omega) (by omega) (by omega) (by omega) (.inr (by omega)) (.inr rfl) _ rfl rfl rfl rfl rfl rfl rfl rfl rfl rfl
  · try simp only [gm, w6, pm, pmW, pmB, ft, ↓reduceIte, reduceCtorEq, nE, nA, nM, nD, nL, iL, iT, iE, iN, iC]
    exact rest a m (by omega) (by omega) (by omega) (by omega) (by omega) (.inl rfl) (.inl rfl) _ rfl rfl rfl rfl rfl rfl rfl rfl rfl rfl
theorem stableIn (pre post : List PV) (b : Nat) (g : FuncId) (first caps : List PV) (c : Int → Int → Int) (key : Int → Int) (ok : Int → Prop) (hc : CmpIn g first caps c key ok) (l : List (Int)) (n : Nat) (hN : l.length = n) (okl : ∀ x ∈ l, ok x) (hn : n ≤ 1000000) (h : Heap) (hb : h.f b = some (rowC en1 pre post l))
    {K : PV → Heap → Prop} (k : K (.tup []) (h.set b (rowC en1 pre post (srt key l)))) :
    CanP Tryz.prog 133 [.buf b 1 pre.length n, .int .i64 n, .fn g first caps] h K := by
  refine e133 rfl ?_
  try simp only [c133, r133_0, r133_1, r133_2, r133_3, r133_4, r133_5, r133_6, r133_7, r133_8, r133_9, r133_10, r133_11, r133_12, r133_13, r133_14, r133_15, r133_16, hc.o1, hc.o2, pm, pmW, pmB, ft, ↓reduceIte, reduceCtorEq, nE, nA, nM, nD, nL, iL, iT, iE, iN, iC]
  refine pwp_fall (fun m σ h' => ∃ (j : Nat) (L : List (Int)), m = n - j * 20 ∧ j * 20 ≤ n ∧ L.length = n ∧ (∀ x ∈ L, ok x) ∧ (∀ q, q < j → BOk key l L 20 q) ∧ L.drop (j * 20) = l.drop (j * 20) ∧ h' = h.set b (rowC en1 pre post L) ∧ σ 0 = .buf b 1 pre.length n ∧ σ 1 = .int .i64 n ∧ σ 2 = .fn g first caps ∧ σ 6 = .int .i64 20 ∧ σ 7 = .int .i64 ((j * 20 : Nat) : Int) ∧ σ 8 = .int .i64 ((j * 20 + 20 : Nat) : Int)) n
    ⟨0, l, by omega, by omega, hN, okl, fun q hq => by omega, rfl, (Heap.set_self hb).symm, rfl, rfl, rfl, rfl, rfl, rfl⟩ ?_
  rintro m σ h' K' ⟨j, L, rfl, hj, hL, okL, hB, hd, rfl, s0, s1, s2, s6, s7, s8⟩ next
  by_cases hle : j * 20 + 20 ≤ n
  · obtain ⟨P, A, Q, rfl, lP, lA⟩ := split3 L (j * 20) 20 (by omega)
    have hlen : P.length + A.length + Q.length = n := by rw [← hL]; simp; omega
    have hq : ((j * 20 + 20 : Nat) : Int) ≤ n := by omega
    have w1 : IntKind.i64.wrap (((j * 20 + 20 : Nat) : Int) + 20) = (((j + 1) * 20 + 20 : Nat) : Int) := by rw [wrap_in (by omega) (by omega)]; omega
    rw [List.append_assoc, List.drop_left' lP] at hd
    try simp only [s0, s1, s2, s7, s8, hq, pm, pmW, pmB, ft, ↓reduceIte, reduceCtorEq, nE, nA, nM, nD, nL, iL, iT, iE, iN, iC]
    refine insertionIn pre post b g first caps c key ok hc P A Q n (j * 20) (j * 20 + 20) lP.symm (by omega) (by omega) (fun x hx => okL x (by simp [hx])) hn _ (Heap.set_same _ _ _) fun S s f => ?_
    try simp only [s6, s8, w1, pm, pmW, pmB, ft, ↓reduceIte, reduceCtorEq, nE, nA, nM, nD, nL, iL, iT, iE, iN, iC]
    refine next (n - (j + 1) * 20) _ _ (by omega) ⟨j + 1, P ++ S ++ Q, rfl, by omega, by simp [← f.length]; omega, fun x hx => ?_, fun q hq => ?_, ?_, rfl, by simp [put, s0], by simp [put, s1], by simp [put, s2], by simp [put, s6], by simp [put]; omega, by simp [put]⟩
    · simp only [List.mem_append] at hx
      rcases hx with (hx | hx) | hx
      · exact okL x (by simp [hx])
      · exact okL x (by simp [f.mem.2 hx])
      · exact okL x (by simp [hx])
    · by_cases e : q = j
      · subst e
        refine BOk.sort lP (.inl lA) ?_ s f
        unfold blkL; rw [← hd, List.take_left' lA]
      · have := hB q (by omega)
        rw [List.append_assoc] at this ⊢
        exact this.left (by rw [lP]; exact Nat.mul_le_mul_right _ (by omega))
    · have e1 : l.drop ((j + 1) * 20) = Q := by rw [show (j + 1) * 20 = j * 20 + 20 by omega, ← List.drop_drop, ← hd, List.drop_left' lA]
      rw [e1, List.drop_left' (by simp [← f.length]; omega)]
  · have hq : ¬ ((j * 20 + 20 : Nat) : Int) ≤ n := by omega
    obtain ⟨P, A, rfl, lP⟩ := split2 L (j * 20) (by omega)
    have hlen : P.length + A.length = n := by rw [← hL]; simp
    rw [List.drop_left' lP] at hd
    try simp only [s0, s1, s2, s7, s8, hq, pm, pmW, pmB, ft, ↓reduceIte, reduceCtorEq, nE, nA, nM, nD, nL, iL, iT, iE, iN, iC]
    refine insertionIn pre post b g first caps c key ok hc P A [] n (j * 20) n lP.symm (by omega) (by simp; omega) (fun x hx => okL x (by simp [hx])) hn _ (by rw [Heap.set_same, List.append_nil]) fun S s f => ?_
    have hall : ∀ q, BOk key l (P ++ S) 20 q := fun q => by
      have lS := f.length
      rcases Nat.lt_trichotomy q j with h1 | h1 | h1
      · exact (hB q h1).left (by rw [lP]; exact Nat.mul_le_mul_right _ (by omega))
      · subst h1
        have := BOk.sort (l := l) (Q := []) lP (.inr ⟨by omega, rfl⟩) (by unfold blkL; rw [← hd, List.take_of_length_le (by omega)]) s f
        rwa [List.append_nil] at this
      · refine BOk.nil (by simp; omega) ?_
        have := Nat.mul_le_mul_right 20 (show j + 1 ≤ q from h1)
        simp; omega
    have okS : ∀ x ∈ P ++ S, ok x := fun x hx => by
      rcases List.mem_append.1 hx with hx | hx
      · exact okL x (by simp [hx])
      · exact okL x (by simp [f.mem.2 hx])
    have lPS : (P ++ S).length = n := by simp [← f.length]; omega
    rw [Heap.set_set, List.append_nil]
    clear hB hd hL okL s f
    generalize P ++ S = L at *
    try simp only [s6, pm, pmW, pmB, ft, ↓reduceIte, reduceCtorEq, nE, nA, nM, nD, nL, iL, iT, iE, iN, iC]
    refine pwp_fall (fun m σ h' => ∃ (w : Nat) (L : List (Int)), m = n - w ∧ 20 ≤ w ∧ (w ≤ n ∨ w ≤ 2 * n ∨ w = 20) ∧ L.length = n ∧ (∀ x ∈ L, ok x) ∧ (∀ q, BOk key l L w q) ∧ h' = h.set b (rowC en1 pre post L) ∧ σ 0 = .buf b 1 pre.length n ∧ σ 1 = .int .i64 n ∧ σ 2 = .fn g first caps ∧ σ 6 = .int .i64 w) (n - 20)
      ⟨20, L, rfl, by omega, .inr (.inr rfl), lPS, okS, hall, rfl, by simp [put, s0], by simp [put, s1], by simp [put, s2], by simp [put, s6]⟩ ?_
    clear hall okS lPS lP hlen hle hq next s0 s1 s2 s6 s7 s8 hj
    rintro m σ h' K2 ⟨w, L, rfl, hw, hw2, hL, okL, hB, rfl, s0, s1, s2, s6⟩ next
    by_cases hwn : w < n
    · have hq : (w : Int) < n := by omega
      have w1 : IntKind.i64.wrap (2 * (w : Int)) = ((2 * w : Nat) : Int) := by rw [wrap_in (by omega) (by omega)]; omega
      have w2 : IntKind.i64.wrap ((w : Int) * 2) = ((2 * w : Nat) : Int) := by rw [wrap_in (by omega) (by omega)]; omega
      try simp only [s6, s1, hq, w1, pm, pmW, pmB, ft, ↓reduceIte, reduceCtorEq, nE, nA, nM, nD, nL, iL, iT, iE, iN, iC]
      refine pwp_fall (fun m σ' h' => ∃ (j a : Nat) (L : List (Int)), m = n - a ∧ a = j * (2 * w) ∧ a ≤ n ∧ L.length = n ∧ (∀ x ∈ L, ok x) ∧ (∀ q, q < j → BOk key l L (2 * w) q) ∧ (∀ q, 2 * j ≤ q → BOk key l L w q) ∧ h' = h.set b (rowC en1 pre post L) ∧ σ' 0 = .buf b 1 pre.length n ∧ σ' 1 = .int .i64 n ∧ σ' 2 = .fn g first caps ∧ σ' 6 = .int .i64 w ∧ σ' 7 = .int .i64 a ∧ σ' 8 = .int .i64 ((a + 2 * w : Nat) : Int)) n
        ⟨0, 0, L, by omega, by omega, by omega, hL, okL, fun q hq => by omega, fun q _ => hB q, rfl, by simp [put, s0], by simp [put, s1], by simp [put, s2], by simp [put, s6], by simp [put], by simp [put]⟩ ?_
      clear hB okL hL
      rintro m σ' h' K3 ⟨j, a, L, rfl, ha, han, hL, okL, hB2, hB1, rfl, t0, t1, t2, t6, t7, t8⟩ next3
      have e1 : (j + 1) * (2 * w) = a + 2 * w := by rw [Nat.add_mul, ← ha]; omega
      have e2 : 2 * j * w = a := by rw [ha, Nat.mul_comm 2 j, Nat.mul_assoc]
      have e3 : (2 * j + 1) * w = a + w := by rw [Nat.add_mul, e2]; omega
      have w3 : IntKind.i64.wrap ((a : Int) + w) = ((a + w : Nat) : Int) := by rw [wrap_in (by omega) (by omega)]; omega
      by_cases hle : a + 2 * w ≤ n
      · have hq : ((a + 2 * w : Nat) : Int) ≤ n := by omega
        have w4 : IntKind.i64.wrap (((a + 2 * w : Nat) : Int) + ((2 * w : Nat) : Int)) = ((a + 2 * w + 2 * w : Nat) : Int) := by rw [wrap_in (by omega) (by omega)]; omega
        obtain ⟨P, A, R, rfl, lP, lA⟩ := split3 L a w (by omega)
        have hlen : P.length + A.length + R.length = n := by rw [← hL]; simp; omega
        obtain ⟨B, Q, rfl, lB⟩ := split2 R w (by omega)
        rw [List.length_append] at hlen
        have eA : blkL (P ++ A ++ (B ++ Q)) (2 * j) w = A := blk_at (by rw [lP, e2]) (.inl lA)
        have eB : blkL (P ++ A ++ (B ++ Q)) (2 * j + 1) w = B := by
          have : P ++ A ++ (B ++ Q) = (P ++ A) ++ B ++ Q := by simp
          rw [this]; exact blk_at (by simp; omega) (.inl lB)
        have bA := hB1 (2 * j) (by omega)
        have bB := hB1 (2 * j + 1) (by omega)
        have sA : Srt key A := by have := bA.2; rwa [eA] at this
        have sB : Srt key B := by have := bB.2; rwa [eB] at this
        try simp only [t0, t1, t2, t6, t7, t8, hq, w3, pm, pmW, pmB, ft, ↓reduceIte, reduceCtorEq, nE, nA, nM, nD, nL, iL, iT, iE, iN, iC]
        refine symMergeIn pre post b g first caps c key ok hc (A.length + B.length) P A B Q _ n a (a + w) (a + 2 * w) rfl lP.symm (by omega) (by omega) (by omega) (by omega) (by omega) (Nat.le_refl _) sA sB (fun x hx => okL x (by simp [hx])) (fun x hx => okL x (by simp [hx])) hn _ (by rw [Heap.set_same]; simp) fun S s f => ?_
        have lS := f.length
        rw [List.length_append] at lS
        rw [Heap.set_set]
        try simp only [t6, t8, w1, w4, pm, pmW, pmB, ft, ↓reduceIte, reduceCtorEq, nE, nA, nM, nD, nL, iL, iT, iE, iN, iC]
        have ePQ : P ++ A ++ (B ++ Q) = P ++ (A ++ B) ++ Q := by simp
        refine next3 (n - (a + 2 * w)) _ _ (by omega) ⟨j + 1, a + 2 * w, P ++ S ++ Q, rfl, e1.symm, hle, by simp; omega, fun x hx => ?_, fun q hq => ?_, fun q hq => ?_, rfl, by simp [put, t0], by simp [put, t1], by simp [put, t2], by simp [put, t6], by simp [put], by simp [put]⟩
        · simp only [List.mem_append] at hx
          rcases hx with (hx | hx) | hx
          · exact okL x (by simp [hx])
          · have := f.mem.2 hx
            rcases List.mem_append.1 this with h | h
            · exact okL x (by simp [h])
            · exact okL x (by simp [h])
          · exact okL x (by simp [hx])
        · by_cases e : q = j
          · subst e
            refine BOk.merge (L := P ++ A ++ (B ++ Q)) (by rw [lP, ha]) bA bB (.inl (by omega)) s ?_
            rw [eA, eB]; exact f
          · have := hB2 q (by omega)
            rw [ePQ, List.append_assoc] at this
            rw [List.append_assoc]
            refine this.left ?_
            rw [lP, ha]; exact Nat.mul_le_mul_right _ (by omega)
        · have hqw := Nat.mul_le_mul_right w (show 2 * (j + 1) ≤ q from hq)
          have e4 : 2 * (j + 1) * w = a + 2 * w := by rw [Nat.mul_add, Nat.add_mul, e2]
          have := hB1 q (by omega)
          rw [ePQ] at this
          exact this.far (by simp; omega) (by simp; omega)
      · have hq : ¬ ((a + 2 * w : Nat) : Int) ≤ n := by omega
        by_cases hm : a + w < n
        · have hm' : ((a + w : Nat) : Int) < n := by omega
          obtain ⟨P, A, B, rfl, lP, lA⟩ := split3 L a w (by omega)
          have hlen : P.length + A.length + B.length = n := by rw [← hL]; simp; omega
          have eA : blkL (P ++ A ++ B) (2 * j) w = A := blk_at (by rw [lP, e2]) (.inl lA)
          have eB : blkL (P ++ A ++ B) (2 * j + 1) w = B := by
            have : P ++ A ++ B = (P ++ A) ++ B ++ [] := by simp
            rw [this]; exact blk_at (by simp; omega) (.inr ⟨by omega, rfl⟩)
          have bA := hB1 (2 * j) (by omega)
          have bB := hB1 (2 * j + 1) (by omega)
          have sA : Srt key A := by have := bA.2; rwa [eA] at this
          have sB : Srt key B := by have := bB.2; rwa [eB] at this
          try simp only [t0, t1, t2, t6, t7, t8, hq, w3, hm', pm, pmW, pmB, ft, ↓reduceIte, reduceCtorEq, nE, nA, nM, nD, nL, iL, iT, iE, iN, iC]
          refine symMergeIn pre post b g first caps c key ok hc (A.length + B.length) P A B [] _ n a (a + w) n rfl lP.symm (by omega) (by omega) (by simp; omega) (by omega) (by omega) (Nat.le_refl _) sA sB (fun x hx => okL x (by simp [hx])) (fun x hx => okL x (by simp [hx])) hn _ (by rw [Heap.set_same]; simp) fun S s f => ?_
          have lS := f.length
          rw [List.length_append] at lS
          rw [Heap.set_set, List.append_nil]
          try simp only [t6, w2, pm, pmW, pmB, ft, ↓reduceIte, reduceCtorEq, nE, nA, nM, nD, nL, iL, iT, iE, iN, iC]
          refine next (n - 2 * w) _ _ (by omega) ⟨2 * w, P ++ S, rfl, by omega, by omega, by simp; omega, fun x hx => ?_, fun q => ?_, rfl, by simp [put, t0], by simp [put, t1], by simp [put, t2], by simp [put]⟩
          · rcases List.mem_append.1 hx with hx | hx
            · exact okL x (by simp [hx])
            · have := f.mem.2 hx
              rcases List.mem_append.1 this with h | h
              · exact okL x (by simp [h])
              · exact okL x (by simp [h])
          · rcases Nat.lt_trichotomy q j with h1 | h1 | h1
            · have := hB2 q h1
              rw [List.append_assoc] at this
              refine this.left ?_
              rw [lP, ha]; exact Nat.mul_le_mul_right _ (by omega)
            · subst h1
              have := BOk.merge (L := P ++ A ++ B) (P := P) (S := S) (Q := []) (by rw [lP, ha]) bA bB (.inr ⟨by omega, rfl⟩) s (by rw [eA, eB]; exact f)
              rwa [List.append_nil] at this
            · refine BOk.nil (by simp; omega) ?_
              have := Nat.mul_le_mul_right (2 * w) (show j + 1 ≤ q from h1)
              simp; omega
        · have hm' : ¬ ((a + w : Nat) : Int) < n := by omega
          try simp only [t0, t1, t2, t6, t7, t8, hq, w2, w3, hm', pm, pmW, pmB, ft, ↓reduceIte, reduceCtorEq, nE, nA, nM, nD, nL, iL, iT, iE, iN, iC]
          refine next (n - 2 * w) _ _ (by omega) ⟨2 * w, L, rfl, by omega, by omega, hL, okL, fun q => ?_, rfl, by simp [put, t0], by simp [put, t1], by simp [put, t2], by simp [put]⟩
          rcases Nat.lt_trichotomy q j with h1 | h1 | h1
          · exact hB2 q h1
          · subst h1
            have bA := hB1 (2 * q) (by omega)
            have bB := hB1 (2 * q + 1) (by omega)
            have nB : blkL L (2 * q + 1) w = [] := blk_nil (by omega)
            unfold BOk
            rw [blk_two, blk_two]
            refine ⟨bA.1.app bB.1, ?_⟩
            rw [nB, List.append_nil]; exact bA.2
          · refine BOk.nil (by omega) ?_
            have := Nat.mul_le_mul_right (2 * w) (show j + 1 ≤ q from h1)
            omega
    · have hq : ¬ (w : Int) < n := by omega
      have b0 := hB 0
      have e1 : blkL l 0 w = l := by unfold blkL; rw [Nat.zero_mul, List.drop_zero, List.take_of_length_le (by omega)]
      have e2 : blkL L 0 w = L := by unfold blkL; rw [Nat.zero_mul, List.drop_zero, List.take_of_length_le (by omega)]
      unfold BOk at b0
      rw [e1, e2] at b0
      have := srt_of b0.2 b0.1
      subst this
      try simp only [s6, s1, hq, pm, pmW, pmB, ft, ↓reduceIte, reduceCtorEq, nE, nA, nM, nD, nL, iL, iT, iE, iN, iC]
      exact finK_rf k
/-- What an order leaves. -/
theorem SortStableIn (pre post : List PV) (b : Nat) (g : FuncId) (first caps first2 caps2 : List PV) (q1 : olds first = first2) (q2 : olds caps = caps2) (c : Int → Int → Int) (key : Int → Int) (ok : Int → Prop) (hc : CmpIn g first2 caps2 c key ok) (l : List (Int)) (n : Nat) (hN : l.length = n) (okl : ∀ x ∈ l, ok x) (hn : n ≤ 1000000) (h : Heap) (hb : h.f b = some (rowC en1 pre post l))
    {K : PV → Heap → Prop} (k : K (.tup []) (h.set b (rowC en1 pre post (srt key l)))) :
    CanP Tryz.prog 113 [.buf b 1 pre.length n, .fn g first caps] h K := by
  refine e113 rfl ?_
  try simp only [c113, r113_0, q1, q2, pm, pmW, pmB, ft, ↓reduceIte, reduceCtorEq, nE, nA, nM, nD, nL, iL, iT, iE, iN, iC]
  refine stableIn pre post b g first2 caps2 c key ok hc l n hN okl hn h hb ?_
  try simp only [pm, pmW, pmB, ft, ↓reduceIte, reduceCtorEq, nE, nA, nM, nD, nL, iL, iT, iE, iN, iC]
  exact finK_rf k
/-- Nothing is nothing's order. -/
theorem SortNoneIn (fr : Bool) (g : FuncId) (first caps : List PV) (h : Heap) {K : PV → Heap → Prop} (k : K (.tup []) h) :
    CanP Tryz.prog 113 [.list fr 1 0 [], .fn g first caps] h K := by
  refine e113 rfl ?_
  try simp only [c113, r113_0, pm, pmW, pmB, ft, ↓reduceIte, reduceCtorEq, nE, nA, nM, nD, nL, iL, iT, iE, iN, iC]
  refine e133 rfl ?_
  try simp only [c133, r133_0, r133_1, r133_2, r133_3, r133_4, r133_5, r133_6, r133_7, r133_8, r133_9, r133_10, r133_11, r133_12, r133_13, r133_14, r133_15, r133_16, pm, pmW, pmB, ft, ↓reduceIte, reduceCtorEq, nE, nA, nM, nD, nL, iL, iT, iE, iN, iC]
  refine pwp_fall (fun m σ h' => h' = h ∧ σ 0 = .list false 1 0 [] ∧ σ 1 = .int .i64 0 ∧ (∃ x y, σ 2 = .fn g x y) ∧ σ 6 = .int .i64 20 ∧ σ 7 = .int .i64 0 ∧ σ 8 = .int .i64 20) 0 ⟨rfl, rfl, rfl, ⟨_, _, rfl⟩, rfl, rfl, rfl⟩ ?_
  rintro m σ h' K' ⟨rfl, s0, s1, ⟨x, y, s2⟩, s6, s7, s8⟩ next
  try simp only [s0, s1, s2, s7, s8, pm, pmW, pmB, ft, ↓reduceIte, reduceCtorEq, nE, nA, nM, nD, nL, iL, iT, iE, iN, iC]
  refine e149 rfl ?_
  have w1 : IntKind.i64.wrap (0 + 1) = 1 := by rfl
  try simp only [c149, r149_0, r149_1, r149_2, r149_3, r149_4, r149_5, r149_6, w1, pm, pmW, pmB, ft, ↓reduceIte, reduceCtorEq, nE, nA, nM, nD, nL, iL, iT, iE, iN, iC]
  refine pwp_fall (fun m σ h3 => h3 = h' ∧ σ 2 = .int .i64 0 ∧ σ 8 = .int .i64 1) 0 ⟨rfl, rfl, rfl⟩ ?_
  rintro m σ2 h3 K2 ⟨rfl, t2, t8⟩ next2
  try simp only [t2, t8, pm, pmW, pmB, ft, ↓reduceIte, reduceCtorEq, nE, nA, nM, nD, nL, iL, iT, iE, iN, iC]
  refine finK_rf ?_
  try simp only [s6, pm, pmW, pmB, ft, ↓reduceIte, reduceCtorEq, nE, nA, nM, nD, nL, iL, iT, iE, iN, iC]
  refine pwp_fall (fun m σ h4 => h4 = h3 ∧ σ 1 = .int .i64 0 ∧ σ 6 = .int .i64 20) 0 ⟨rfl, by simp [put, s1], by simp [put, s6]⟩ ?_
  rintro m σ3 h4 K3 ⟨rfl, u1, u6⟩ next3
  try simp only [u1, u6, pm, pmW, pmB, ft, ↓reduceIte, reduceCtorEq, nE, nA, nM, nD, nL, iL, iT, iE, iN, iC]
  refine finK_rf ?_
  try simp only [pm, pmW, pmB, ft, ↓reduceIte, reduceCtorEq, nE, nA, nM, nD, nL, iL, iT, iE, iN, iC]
  exact finK_rf k
end Go.Proofs.YtcgaphmndnmfdaaGreat
