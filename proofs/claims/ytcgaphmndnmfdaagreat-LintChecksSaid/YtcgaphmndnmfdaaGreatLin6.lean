/-
  What is odd at a place of a paragraph: the document's answer.
  Conditions: a text of at most a thousand codes.
-/
import Derived.Test.YtcgaphmndnmfdaaGreatLin3
import Derived.Test.YtcgaphmndnmfdaaGreatUf
namespace Go.Proofs.YtcgaphmndnmfdaaGreat
open Go.Pm
open Nat renaming reduceEqDiff → nE, reduceAdd → nA, reduceMul → nM, reduceLeDiff → nD, reduceLT → nL
open Int renaming reduceLE → iL, reduceLT → iT, reduceEq → iE, reduceToNat → iN, cast_ofNat_Int → iC
set_option maxRecDepth 100000
set_option linter.unusedSimpArgs false
set_option linter.unusedVariables false
set_option maxHeartbeats 4000000

theorem DigitR49 (c : Int) (h : Heap) {K : PV → Heap → Prop} (k : K (.tup [.int .i64 (digT c).1, .int .i64 (digT c).2]) h) : CanP Tryz.prog 101 [.int .i64 c] h K := by
  refine e101 rfl ?_
  try simp only [c101, r101_0, r101_1, r101_2, r101_3, r101_4, r101_5, r101_6, r101_7, pm, pmW, pmB, ft, ↓reduceIte, reduceCtorEq, nE, nA, nM, nD, nL, iL, iT, iE, iN, iC]
  unfold digT at k
  by_cases a1 : 48 ≤ c
  · by_cases a2 : c ≤ 57
    · rw [if_pos (by omega)] at k
      try simp only [a1, a2, pm, pmW, pmB, ft, ↓reduceIte, reduceCtorEq, nE, nA, nM, nD, nL, iL, iT, iE, iN, iC]
      rw [wrap_in (by omega) (by omega)]
      exact finK_le (Heap.le_refl _) k
    · rw [if_neg (by omega)] at k
      by_cases b1 : 1632 ≤ c
      · by_cases b2 : c ≤ 1641
        · rw [if_pos (by omega)] at k
          try simp only [a1, a2, b1, b2, pm, pmW, pmB, ft, ↓reduceIte, reduceCtorEq, nE, nA, nM, nD, nL, iL, iT, iE, iN, iC]
          rw [wrap_in (by omega) (by omega)]
          exact finK_le (Heap.le_refl _) k
        · rw [if_neg (by omega)] at k
          by_cases d1 : 1776 ≤ c
          · by_cases d2 : c ≤ 1785
            · rw [if_pos (by omega)] at k
              try simp only [a1, a2, b1, b2, d1, d2, pm, pmW, pmB, ft, ↓reduceIte, reduceCtorEq, nE, nA, nM, nD, nL, iL, iT, iE, iN, iC]
              rw [wrap_in (by omega) (by omega)]
              exact finK_le (Heap.le_refl _) k
            · rw [if_neg (by omega)] at k
              try simp only [a1, a2, b1, b2, d1, d2, pm, pmW, pmB, ft, ↓reduceIte, reduceCtorEq, nE, nA, nM, nD, nL, iL, iT, iE, iN, iC]
              exact finK_le (Heap.le_refl _) k
          · rw [if_neg (by omega)] at k
            try simp only [a1, a2, b1, b2, d1, pm, pmW, pmB, ft, ↓reduceIte, reduceCtorEq, nE, nA, nM, nD, nL, iL, iT, iE, iN, iC]
            exact finK_le (Heap.le_refl _) k
      · have d1 : ¬ 1776 ≤ c := by omega
        rw [if_neg (by omega), if_neg (by omega)] at k
        try simp only [a1, a2, b1, d1, pm, pmW, pmB, ft, ↓reduceIte, reduceCtorEq, nE, nA, nM, nD, nL, iL, iT, iE, iN, iC]
        exact finK_le (Heap.le_refl _) k
  · have b1 : ¬ 1632 ≤ c := by omega
    have d1 : ¬ 1776 ≤ c := by omega
    rw [if_neg (by omega), if_neg (by omega), if_neg (by omega)] at k
    try simp only [a1, b1, d1, pm, pmW, pmB, ft, ↓reduceIte, reduceCtorEq, nE, nA, nM, nD, nL, iL, iT, iE, iN, iC]
    exact finK_le (Heap.le_refl _) k
theorem dig_pos (c : Int) : 0 ≤ (digT c).2 := by
  unfold digT
  split
  · exact (by decide : (0 : Int) ≤ 1)
  · split
    · exact (by decide : (0 : Int) ≤ 2)
    · split
      · exact (by decide : (0 : Int) ≤ 3)
      · exact (by decide : (0 : Int) ≤ 0)
theorem otherR (fr : Bool) (X : List Int) (hl : X.length ≤ 1000) (i : Nat) (hi : i < X.length) (h : Heap) {K : PV → Heap → Prop} (k : K (.bool (mixT X i)) h) :
    CanP Tryz.prog 64 [.list fr 1 X.length (X.map (.int .i64)), .int .i64 i] h K := by
  refine e64 rfl ?_
  rw [mixT] at k
  by_cases h0 : i = 0
  · have h0' : decide ((i : Int) = 0) = true := decide_eq_true (by omega)
    rw [decide_eq_false (by omega), Bool.false_and] at k
    try simp only [c64, r64_0, r64_1, r64_2, r64_3, r64_4, r64_5, h0', pm, pmW, pmB, ft, ↓reduceIte, reduceCtorEq, nE, nA, nM, nD, nL, iL, iT, iE, iN, iC]
    exact finK_rf k
  · have h0' : decide ((i : Int) = 0) = false := decide_eq_false (by omega)
    rw [decide_eq_true (by omega), Bool.true_and] at k
    have hw : IntKind.i64.wrap ((i : Int) - 1) = ((i - 1 : Nat) : Int) := by rw [wrap_in (by omega) (by omega)]; omega
    have hi2 : i - 1 < X.length := by omega
    have hx2 := getm (PV.int .i64) X hi2
    rw [show X.getD (i - 1) default = at0 X (i - 1) from rfl] at hx2
    have hx := getm (PV.int .i64) X hi
    rw [show X.getD i default = at0 X i from rfl] at hx
    try simp only [c64, r64_0, r64_1, r64_2, r64_3, r64_4, r64_5, h0', hw, hi2, hx2, pm, pmW, pmB, ft, ↓reduceIte, reduceCtorEq, nE, nA, nM, nD, nL, iL, iT, iE, iN, iC]
    refine DigitR49 _ _ ?_
    try simp only [hi, hx, pm, pmW, pmB, ft, ↓reduceIte, reduceCtorEq, nE, nA, nM, nD, nL, iL, iT, iE, iN, iC]
    refine DigitR49 _ _ ?_
    have pa := dig_pos (at0 X (i - 1))
    have pb := dig_pos (at0 X i)
    generalize (digT (at0 X (i - 1))).2 = a at *
    generalize (digT (at0 X i)).2 = b at *
    by_cases h1 : 0 < a
    · by_cases h2 : 0 < b
      · rw [show decide (a ≠ 0) = true from decide_eq_true (by omega), show decide (b ≠ 0) = true from decide_eq_true (by omega), Bool.and_self, Bool.and_true] at k
        cases h3 : decide (a = b)
        · rw [show decide (a ≠ b) = true by simpa using h3] at k
          try simp only [h1, h2, h3, pm, pmW, pmB, ft, ↓reduceIte, reduceCtorEq, nE, nA, nM, nD, nL, iL, iT, iE, iN, iC]
          exact finK_rf k
        · rw [show decide (a ≠ b) = false by simpa using h3] at k
          try simp only [h1, h2, h3, pm, pmW, pmB, ft, ↓reduceIte, reduceCtorEq, nE, nA, nM, nD, nL, iL, iT, iE, iN, iC]
          exact finK_rf k
      · rw [show decide (b ≠ 0) = false from decide_eq_false (by omega), Bool.and_false, Bool.and_false] at k
        try simp only [h1, h2, pm, pmW, pmB, ft, ↓reduceIte, reduceCtorEq, nE, nA, nM, nD, nL, iL, iT, iE, iN, iC]
        exact finK_rf k
    · rw [show decide (a ≠ 0) = false from decide_eq_false (by omega), Bool.false_and, Bool.and_false] at k
      try simp only [h1, pm, pmW, pmB, ft, ↓reduceIte, reduceCtorEq, nE, nA, nM, nD, nL, iL, iT, iE, iN, iC]
      exact finK_rf k
theorem bareR49 (fr : Bool) (X : List Int) (hl : X.length ≤ 1000) (s : Int × Int) (i : Nat) (hi : i < X.length) (hs : 0 ≤ s.1 ∧ s.1 ≤ i) (h : Heap) {K : PV → Heap → Prop} (k : K (.bool (bareT X s i)) h) :
    CanP Tryz.prog 62 [.list fr 1 X.length (X.map (.int .i64)), .agg [.int .i64 s.1, .int .i64 s.2], .int .i64 i] h K := by
  refine e62 rfl ?_
  have hx := getm (PV.int .i64) X hi
  rw [show X.getD i default = at0 X i from rfl] at hx
  rw [bareT] at k
  try simp only [c62, r62_0, r62_1, r62_2, r62_3, r62_4, r62_5, r62_6, hi, hx, pm, pmW, pmB, ft, ↓reduceIte, reduceCtorEq, nE, nA, nM, nD, nL, iL, iT, iE, iN, iC]
  refine MarkR _ _ ?_
  cases h1 : markT (at0 X i)
  · rw [h1, Bool.false_and] at k
    try simp only [pm, pmW, pmB, ft, ↓reduceIte, reduceCtorEq, nE, nA, nM, nD, nL, iL, iT, iE, iN, iC]
    exact finK_rf k
  · rw [h1, Bool.true_and] at k
    by_cases h2 : (i : Int) = s.1
    · have hd : decide ((i : Int) = s.1) = true := decide_eq_true h2
      rw [hd, Bool.true_or] at k
      try simp only [hd, pm, pmW, pmB, ft, ↓reduceIte, reduceCtorEq, nE, nA, nM, nD, nL, iL, iT, iE, iN, iC]
      exact finK_rf k
    · have hd : decide ((i : Int) = s.1) = false := decide_eq_false h2
      rw [hd, Bool.false_or, spaceT] at k
      have hw : IntKind.i64.wrap ((i : Int) - 1) = ((i - 1 : Nat) : Int) := by rw [wrap_in (by omega) (by omega)]; omega
      have hi2 : i - 1 < X.length := by omega
      have hx2 := getm (PV.int .i64) X hi2
      rw [show X.getD (i - 1) default = at0 X (i - 1) from rfl] at hx2
      try simp only [hd, hw, hi2, hx2, pm, pmW, pmB, ft, ↓reduceIte, reduceCtorEq, nE, nA, nM, nD, nL, iL, iT, iE, iN, iC]
      refine ClassR _ _ ?_
      generalize classT (at0 X (i - 1)) = y at *
      cases h3 : decide (y = 10)
      · cases h4 : decide (y = 11)
        · cases h5 : decide (y = 12)
          · rw [h3, h4, h5] at k
            try simp only [h3, h4, h5, pm, pmW, pmB, ft, ↓reduceIte, reduceCtorEq, nE, nA, nM, nD, nL, iL, iT, iE, iN, iC]
            exact finK_rf k
          · rw [h3, h4, h5] at k
            try simp only [h3, h4, h5, pm, pmW, pmB, ft, ↓reduceIte, reduceCtorEq, nE, nA, nM, nD, nL, iL, iT, iE, iN, iC]
            exact finK_rf k
        · rw [h3, h4] at k
          try simp only [h3, h4, pm, pmW, pmB, ft, ↓reduceIte, reduceCtorEq, nE, nA, nM, nD, nL, iL, iT, iE, iN, iC]
          exact finK_rf k
      · rw [h3] at k
        try simp only [h3, pm, pmW, pmB, ft, ↓reduceIte, reduceCtorEq, nE, nA, nM, nD, nL, iL, iT, iE, iN, iC]
        exact finK_rf k
theorem kls_step (q : Int → Int) (X : List Int) (s : Int × Int) (i n : Nat) : kls q X s i (n + 1) = if kindT q X s ((n + 1 : Nat) : Int) i then kls q X s i n ++ [((n + 1 : Nat) : Int)] else kls q X s i n := rfl
theorem kindsR (f1 f2 f3 : Bool) (X : List Int) (hl : X.length ≤ 1000) (s : Int × Int) (hs : 0 ≤ s.1 ∧ s.1 < s.2 ∧ s.2 ≤ (X.length : Int)) (O L : List Int) (hO : O.length ≤ 1000000) (hL : L.length ≤ 1000000) (eO : openT (cls (cutS X s)) = O) (eL : (wkT (cls (cutS X s))).ls = L)
    (i : Nat) (hi : s.1 ≤ i ∧ (i : Int) < s.2) (h : Heap) {K : PV → Heap → Prop} (k : K (.list true 1 (kls cccT X s i 8).length ((kls cccT X s i 8).map (.int .i64))) h) :
    CanP Tryz.prog 29 [.list f1 1 X.length (X.map (.int .i64)), .agg [.int .i64 s.1, .int .i64 s.2], .list f2 1 O.length (O.map (.int .i64)), .list f3 1 L.length (L.map (.int .i64)), .int .i64 i] h K := by
  refine e29 rfl ?_
  have hiX : i < X.length := by omega
  have hx := getm (PV.int .i64) X hiX
  rw [show X.getD i default = at0 X i from rfl] at hx
  have hw : IntKind.i64.wrap ((i : Int) - s.1) = (i : Int) - s.1 := wrap_in (by omega) (by omega)
  have q1 : kindT cccT X s 1 i = illT (at0 X i) := rfl
  have q2 : kindT cccT X s 2 i = decide ((i : Int) - s.1 ∈ O) := by rw [← eO]; rfl
  have q3 : kindT cccT X s 3 i = decide ((i : Int) - s.1 ∈ L) := by rw [← eL]; rfl
  have q4 : kindT cccT X s 4 i = presB (at0 X i) := rfl
  have q5 : kindT cccT X s 5 i = bareT X s i := rfl
  have q6 : kindT cccT X s 6 i = behT cccT X i := rfl
  have q7 : kindT cccT X s 7 i = mixT X i := rfl
  have q8 : kindT cccT X s 8 i = rowT X i := rfl
  have tailC : ∀ (σ : Sl) (b : Nat) (b1 b2 b3 b4 b5 b6 b7 b8 : Bool), h.f b = none → σ 11 = .ptr b 0 → b1 = kindT cccT X s 1 i → b2 = kindT cccT X s 2 i → b3 = kindT cccT X s 3 i → b4 = kindT cccT X s 4 i → b5 = kindT cccT X s 5 i → b6 = kindT cccT X s 6 i → b7 = kindT cccT X s 7 i → b8 = kindT cccT X s 8 i →
      pwp Tryz.prog ll29 cc29 (fin Tryz.prog [.tmp 10] h K) σ (h.set b [.bool false, .bool b1, .bool b2, .bool b3, .bool b4, .bool b5, .bool b6, .bool b7, .bool b8]) := by
    intro σ b b1 b2 b3 b4 b5 b6 b7 b8 hb s11 e1 e2 e3 e4 e5 e6 e7 e8
    have hcell : ∀ n, n < 8 → ([PV.bool false, .bool b1, .bool b2, .bool b3, .bool b4, .bool b5, .bool b6, .bool b7, .bool b8] : List PV)[n + 1]? = some (.bool (kindT cccT X s ((n + 1 : Nat) : Int) i)) := fun n hn => by
      rcases (show n = 0 ∨ n = 1 ∨ n = 2 ∨ n = 3 ∨ n = 4 ∨ n = 5 ∨ n = 6 ∨ n = 7 by omega) with rfl | rfl | rfl | rfl | rfl | rfl | rfl | rfl
      · show some (PV.bool b1) = _; rw [e1]; rfl
      · show some (PV.bool b2) = _; rw [e2]; rfl
      · show some (PV.bool b3) = _; rw [e3]; rfl
      · show some (PV.bool b4) = _; rw [e4]; rfl
      · show some (PV.bool b5) = _; rw [e5]; rfl
      · show some (PV.bool b6) = _; rw [e6]; rfl
      · show some (PV.bool b7) = _; rw [e7]; rfl
      · show some (PV.bool b8) = _; rw [e8]; rfl
    try simp only [c29, ll29, r29_0, r29_1, r29_2, r29_3, r29_4, r29_5, r29_6, r29_7, r29_8, cc29, Heap.kill_none hb, ft3, s11, pm, pmW, pmB, ft, ↓reduceIte, reduceCtorEq, nE, nA, nM, nD, nL, iL, iT, iE, iN, iC]
    clear e1 e2 e3 e4 e5 e6 e7 e8
    have hlen : ([PV.bool false, .bool b1, .bool b2, .bool b3, .bool b4, .bool b5, .bool b6, .bool b7, .bool b8] : List PV).length = 9 := rfl
    generalize ([PV.bool false, .bool b1, .bool b2, .bool b3, .bool b4, .bool b5, .bool b6, .bool b7, .bool b8] : List PV) = cs at *
    refine pwp_up 8 (fun n σ' h' => Acc h h' (σ' 12) 1 (kls cccT X s i n).length ((kls cccT X s i n).map (.int .i64)) ∧ h.le h' ∧ σ' 11 = .fptr false cs 0 ∧ σ' 13 = .int .i64 ((n + 1 : Nat) : Int)) ?_ ?_
    · exact ⟨Acc.nil _ _ _, Heap.le_refl _, by simp [put], by simp [put]⟩
    rintro n σ' h' K' hn ⟨a, lh, z11, z13⟩ next
    have kl := kls_len cccT X s i n
    rcases Nat.lt_or_ge n 8 with hlt | hge
    · have hlt9 : ((n + 1 : Nat) : Int) < 9 := by omega
      have hlt9' : n + 1 < 9 := by omega
      have hwn : IntKind.i64.wrap (((n + 1 : Nat) : Int) + 1) = ((n + 1 + 1 : Nat) : Int) := by rw [wrap_in (by omega) (by omega)]; omega
      have hc := hcell n hlt
      have hst := kls_step cccT X s i n
      cases hk : kindT cccT X s ((n + 1 : Nat) : Int) i
      · rw [hk] at hc
        rw [hk, if_neg (by simp)] at hst
        try simp only [z11, z13, hlt9, hlt9', hc, hlen, hwn, ft3, pm, pmW, pmB, ft, ↓reduceIte, reduceCtorEq, nE, nA, nM, nD, nL, iL, iT, iE, iN, iC]
        refine next hlt _ _ ?_
        rw [hst]
        exact ⟨by simpa [put] using a, lh, by simp [put, z11], by simp [put]⟩
      · rw [hk] at hc
        rw [hk, if_pos rfl] at hst
        try simp only [z11, z13, hlt9, hlt9', hc, hlen, hwn, ft3, pm, pmW, pmB, ft, ↓reduceIte, reduceCtorEq, nE, nA, nM, nD, nL, iL, iT, iE, iN, iC]
        refine a.app lh (by decide) rfl (by omega) (by simp only [maxLen]; omega) fun v5 h5 a5 l5 sd5 => ?_
        try simp only [z13, hwn, pm, pmW, pmB, ft, ↓reduceIte, reduceCtorEq, nE, nA, nM, nD, nL, iL, iT, iE, iN, iC]
        refine next hlt _ _ ?_
        rw [hst, List.length_append, List.map_append]
        exact ⟨by simpa [put] using a5, l5, by simp [put, z11], by simp [put]⟩
    · have e : n = 8 := by omega
      subst e
      try simp only [z13, pm, pmW, pmB, ft, ↓reduceIte, reduceCtorEq, nE, nA, nM, nD, nL, iL, iT, iE, iN, iC]
      refine a.fin lh ?_
      rw [olds_ints]; exact k
  have hill : illT (at0 X i) = (decide (at0 X i < 0) || decide (1114111 < at0 X i)) := rfl
  by_cases h0 : 0 < i
  · have h0' : (0 : Int) < (i : Int) := by omega
    have hw1 : IntKind.i64.wrap ((i : Int) - 1) = ((i - 1 : Nat) : Int) := by rw [wrap_in (by omega) (by omega)]; omega
    have hi2 : i - 1 < X.length := by omega
    have hx2 := getm (PV.int .i64) X hi2
    rw [show X.getD (i - 1) default = at0 X (i - 1) from rfl] at hx2
    have hmax : ¬ ((i - 1 : Nat) : Int) < 0 := by omega
    have hbe0 : behT cccT X i = (decide (0 < cccT (at0 X i)) && decide (cccT (at0 X i) < cccT (at0 X (i - 1)))) := by
      rw [behT, decide_eq_true h0, Bool.true_and, befT_ref, Bool.not_not]
    by_cases hcc : 0 < cccT (at0 X i)
    · have hbe : behT cccT X i = decide (cccT (at0 X i) < cccT (at0 X (i - 1))) := by rw [hbe0, decide_eq_true hcc, Bool.true_and]
      cases h1 : decide (at0 X i < 0)
      · try simp only [c29, ll29, r29_0, r29_1, r29_2, r29_3, r29_4, r29_5, r29_6, r29_7, r29_8, pmU, ft3, hiX, hx, h1, hw, h0', hcc, hw1, hmax, hi2, hx2, pm, pmW, pmB, ft, ↓reduceIte, reduceCtorEq, nE, nA, nM, nD, nL, iL, iT, iE, iN, iC]
        refine ⟨_, fun g => has49 _ O hO _ g ⟨rfl, rfl⟩, ?_⟩
        try simp only [pmU, ft3, hiX, hx, h1, hw, h0', hcc, hw1, hmax, hi2, hx2, pm, pmW, pmB, ft, ↓reduceIte, reduceCtorEq, nE, nA, nM, nD, nL, iL, iT, iE, iN, iC]
        refine ⟨_, fun g => has49 _ L hL _ g ⟨rfl, rfl⟩, ?_⟩
        try simp only [pmU, ft3, hiX, hx, h1, hw, h0', hcc, hw1, hmax, hi2, hx2, pm, pmW, pmB, ft, ↓reduceIte, reduceCtorEq, nE, nA, nM, nD, nL, iL, iT, iE, iN, iC]
        refine ⟨_, fun g => PresentedR _ g ⟨rfl, rfl⟩, ?_⟩
        try simp only [pmU, ft3, hiX, hx, h1, hw, h0', hcc, hw1, hmax, hi2, hx2, pm, pmW, pmB, ft, ↓reduceIte, reduceCtorEq, nE, nA, nM, nD, nL, iL, iT, iE, iN, iC]
        refine ⟨_, fun g => bareR49 _ X hl s i hiX (by omega) g ⟨rfl, rfl⟩, ?_⟩
        try simp only [pmU, ft3, hiX, hx, h1, hw, h0', hcc, hw1, hmax, hi2, hx2, pm, pmW, pmB, ft, ↓reduceIte, reduceCtorEq, nE, nA, nM, nD, nL, iL, iT, iE, iN, iC]
        refine ⟨_, fun g => OfR _ g ⟨rfl, rfl⟩, ?_⟩
        try simp only [pmU, ft3, hiX, hx, h1, hw, h0', hcc, hw1, hmax, hi2, hx2, pm, pmW, pmB, ft, ↓reduceIte, reduceCtorEq, nE, nA, nM, nD, nL, iL, iT, iE, iN, iC]
        refine ⟨_, fun g => OfR _ g ⟨rfl, rfl⟩, ?_⟩
        try simp only [pmU, ft3, hiX, hx, h1, hw, h0', hcc, hw1, hmax, hi2, hx2, pm, pmW, pmB, ft, ↓reduceIte, reduceCtorEq, nE, nA, nM, nD, nL, iL, iT, iE, iN, iC]
        refine ⟨_, fun g => OfR _ g ⟨rfl, rfl⟩, ?_⟩
        try simp only [pmU, ft3, hiX, hx, h1, hw, h0', hcc, hw1, hmax, hi2, hx2, pm, pmW, pmB, ft, ↓reduceIte, reduceCtorEq, nE, nA, nM, nD, nL, iL, iT, iE, iN, iC]
        refine ⟨_, fun g => otherR _ X hl i hiX g ⟨rfl, rfl⟩, ?_⟩
        try simp only [pmU, ft3, hiX, hx, h1, hw, h0', hcc, hw1, hmax, hi2, hx2, pm, pmW, pmB, ft, ↓reduceIte, reduceCtorEq, nE, nA, nM, nD, nL, iL, iT, iE, iN, iC]
        refine ⟨_, fun g => rowR49 _ X (by omega) i hiX g ⟨rfl, rfl⟩, ?_⟩
        try simp only [pmU, ft3, hiX, hx, h1, hw, h0', hcc, hw1, hmax, hi2, hx2, pm, pmW, pmB, ft, ↓reduceIte, reduceCtorEq, nE, nA, nM, nD, nL, iL, iT, iE, iN, iC]
        intro b hb
        refine tailC _ b _ _ _ _ _ _ _ _ hb ?_ ?_ ?_ ?_ ?_ ?_ ?_ ?_ ?_
        · simp [put]
        · rw [q1, hill, h1]; rfl
        · exact q2.symm
        · exact q3.symm
        · exact q4.symm
        · exact q5.symm
        · rw [q6, hbe]
        · exact q7.symm
        · exact q8.symm
      · try simp only [c29, ll29, r29_0, r29_1, r29_2, r29_3, r29_4, r29_5, r29_6, r29_7, r29_8, pmU, ft3, hiX, hx, h1, hw, h0', hcc, hw1, hmax, hi2, hx2, pm, pmW, pmB, ft, ↓reduceIte, reduceCtorEq, nE, nA, nM, nD, nL, iL, iT, iE, iN, iC]
        refine ⟨_, fun g => has49 _ O hO _ g ⟨rfl, rfl⟩, ?_⟩
        try simp only [pmU, ft3, hiX, hx, h1, hw, h0', hcc, hw1, hmax, hi2, hx2, pm, pmW, pmB, ft, ↓reduceIte, reduceCtorEq, nE, nA, nM, nD, nL, iL, iT, iE, iN, iC]
        refine ⟨_, fun g => has49 _ L hL _ g ⟨rfl, rfl⟩, ?_⟩
        try simp only [pmU, ft3, hiX, hx, h1, hw, h0', hcc, hw1, hmax, hi2, hx2, pm, pmW, pmB, ft, ↓reduceIte, reduceCtorEq, nE, nA, nM, nD, nL, iL, iT, iE, iN, iC]
        refine ⟨_, fun g => PresentedR _ g ⟨rfl, rfl⟩, ?_⟩
        try simp only [pmU, ft3, hiX, hx, h1, hw, h0', hcc, hw1, hmax, hi2, hx2, pm, pmW, pmB, ft, ↓reduceIte, reduceCtorEq, nE, nA, nM, nD, nL, iL, iT, iE, iN, iC]
        refine ⟨_, fun g => bareR49 _ X hl s i hiX (by omega) g ⟨rfl, rfl⟩, ?_⟩
        try simp only [pmU, ft3, hiX, hx, h1, hw, h0', hcc, hw1, hmax, hi2, hx2, pm, pmW, pmB, ft, ↓reduceIte, reduceCtorEq, nE, nA, nM, nD, nL, iL, iT, iE, iN, iC]
        refine ⟨_, fun g => OfR _ g ⟨rfl, rfl⟩, ?_⟩
        try simp only [pmU, ft3, hiX, hx, h1, hw, h0', hcc, hw1, hmax, hi2, hx2, pm, pmW, pmB, ft, ↓reduceIte, reduceCtorEq, nE, nA, nM, nD, nL, iL, iT, iE, iN, iC]
        refine ⟨_, fun g => OfR _ g ⟨rfl, rfl⟩, ?_⟩
        try simp only [pmU, ft3, hiX, hx, h1, hw, h0', hcc, hw1, hmax, hi2, hx2, pm, pmW, pmB, ft, ↓reduceIte, reduceCtorEq, nE, nA, nM, nD, nL, iL, iT, iE, iN, iC]
        refine ⟨_, fun g => OfR _ g ⟨rfl, rfl⟩, ?_⟩
        try simp only [pmU, ft3, hiX, hx, h1, hw, h0', hcc, hw1, hmax, hi2, hx2, pm, pmW, pmB, ft, ↓reduceIte, reduceCtorEq, nE, nA, nM, nD, nL, iL, iT, iE, iN, iC]
        refine ⟨_, fun g => otherR _ X hl i hiX g ⟨rfl, rfl⟩, ?_⟩
        try simp only [pmU, ft3, hiX, hx, h1, hw, h0', hcc, hw1, hmax, hi2, hx2, pm, pmW, pmB, ft, ↓reduceIte, reduceCtorEq, nE, nA, nM, nD, nL, iL, iT, iE, iN, iC]
        refine ⟨_, fun g => rowR49 _ X (by omega) i hiX g ⟨rfl, rfl⟩, ?_⟩
        try simp only [pmU, ft3, hiX, hx, h1, hw, h0', hcc, hw1, hmax, hi2, hx2, pm, pmW, pmB, ft, ↓reduceIte, reduceCtorEq, nE, nA, nM, nD, nL, iL, iT, iE, iN, iC]
        intro b hb
        refine tailC _ b _ _ _ _ _ _ _ _ hb ?_ ?_ ?_ ?_ ?_ ?_ ?_ ?_ ?_
        · simp [put]
        · rw [q1, hill, h1]; rfl
        · exact q2.symm
        · exact q3.symm
        · exact q4.symm
        · exact q5.symm
        · rw [q6, hbe]
        · exact q7.symm
        · exact q8.symm
    · have hbe : behT cccT X i = false := by rw [hbe0, decide_eq_false hcc, Bool.false_and]
      cases h1 : decide (at0 X i < 0)
      · try simp only [c29, ll29, r29_0, r29_1, r29_2, r29_3, r29_4, r29_5, r29_6, r29_7, r29_8, pmU, ft3, hiX, hx, h1, hw, h0', hcc, pm, pmW, pmB, ft, ↓reduceIte, reduceCtorEq, nE, nA, nM, nD, nL, iL, iT, iE, iN, iC]
        refine ⟨_, fun g => has49 _ O hO _ g ⟨rfl, rfl⟩, ?_⟩
        try simp only [pmU, ft3, hiX, hx, h1, hw, h0', hcc, pm, pmW, pmB, ft, ↓reduceIte, reduceCtorEq, nE, nA, nM, nD, nL, iL, iT, iE, iN, iC]
        refine ⟨_, fun g => has49 _ L hL _ g ⟨rfl, rfl⟩, ?_⟩
        try simp only [pmU, ft3, hiX, hx, h1, hw, h0', hcc, pm, pmW, pmB, ft, ↓reduceIte, reduceCtorEq, nE, nA, nM, nD, nL, iL, iT, iE, iN, iC]
        refine ⟨_, fun g => PresentedR _ g ⟨rfl, rfl⟩, ?_⟩
        try simp only [pmU, ft3, hiX, hx, h1, hw, h0', hcc, pm, pmW, pmB, ft, ↓reduceIte, reduceCtorEq, nE, nA, nM, nD, nL, iL, iT, iE, iN, iC]
        refine ⟨_, fun g => bareR49 _ X hl s i hiX (by omega) g ⟨rfl, rfl⟩, ?_⟩
        try simp only [pmU, ft3, hiX, hx, h1, hw, h0', hcc, pm, pmW, pmB, ft, ↓reduceIte, reduceCtorEq, nE, nA, nM, nD, nL, iL, iT, iE, iN, iC]
        refine ⟨_, fun g => OfR _ g ⟨rfl, rfl⟩, ?_⟩
        try simp only [pmU, ft3, hiX, hx, h1, hw, h0', hcc, pm, pmW, pmB, ft, ↓reduceIte, reduceCtorEq, nE, nA, nM, nD, nL, iL, iT, iE, iN, iC]
        refine ⟨_, fun g => otherR _ X hl i hiX g ⟨rfl, rfl⟩, ?_⟩
        try simp only [pmU, ft3, hiX, hx, h1, hw, h0', hcc, pm, pmW, pmB, ft, ↓reduceIte, reduceCtorEq, nE, nA, nM, nD, nL, iL, iT, iE, iN, iC]
        refine ⟨_, fun g => rowR49 _ X (by omega) i hiX g ⟨rfl, rfl⟩, ?_⟩
        try simp only [pmU, ft3, hiX, hx, h1, hw, h0', hcc, pm, pmW, pmB, ft, ↓reduceIte, reduceCtorEq, nE, nA, nM, nD, nL, iL, iT, iE, iN, iC]
        intro b hb
        refine tailC _ b _ _ _ _ _ _ _ _ hb ?_ ?_ ?_ ?_ ?_ ?_ ?_ ?_ ?_
        · simp [put]
        · rw [q1, hill, h1]; rfl
        · exact q2.symm
        · exact q3.symm
        · exact q4.symm
        · exact q5.symm
        · rw [q6, hbe]
        · exact q7.symm
        · exact q8.symm
      · try simp only [c29, ll29, r29_0, r29_1, r29_2, r29_3, r29_4, r29_5, r29_6, r29_7, r29_8, pmU, ft3, hiX, hx, h1, hw, h0', hcc, pm, pmW, pmB, ft, ↓reduceIte, reduceCtorEq, nE, nA, nM, nD, nL, iL, iT, iE, iN, iC]
        refine ⟨_, fun g => has49 _ O hO _ g ⟨rfl, rfl⟩, ?_⟩
        try simp only [pmU, ft3, hiX, hx, h1, hw, h0', hcc, pm, pmW, pmB, ft, ↓reduceIte, reduceCtorEq, nE, nA, nM, nD, nL, iL, iT, iE, iN, iC]
        refine ⟨_, fun g => has49 _ L hL _ g ⟨rfl, rfl⟩, ?_⟩
        try simp only [pmU, ft3, hiX, hx, h1, hw, h0', hcc, pm, pmW, pmB, ft, ↓reduceIte, reduceCtorEq, nE, nA, nM, nD, nL, iL, iT, iE, iN, iC]
        refine ⟨_, fun g => PresentedR _ g ⟨rfl, rfl⟩, ?_⟩
        try simp only [pmU, ft3, hiX, hx, h1, hw, h0', hcc, pm, pmW, pmB, ft, ↓reduceIte, reduceCtorEq, nE, nA, nM, nD, nL, iL, iT, iE, iN, iC]
        refine ⟨_, fun g => bareR49 _ X hl s i hiX (by omega) g ⟨rfl, rfl⟩, ?_⟩
        try simp only [pmU, ft3, hiX, hx, h1, hw, h0', hcc, pm, pmW, pmB, ft, ↓reduceIte, reduceCtorEq, nE, nA, nM, nD, nL, iL, iT, iE, iN, iC]
        refine ⟨_, fun g => OfR _ g ⟨rfl, rfl⟩, ?_⟩
        try simp only [pmU, ft3, hiX, hx, h1, hw, h0', hcc, pm, pmW, pmB, ft, ↓reduceIte, reduceCtorEq, nE, nA, nM, nD, nL, iL, iT, iE, iN, iC]
        refine ⟨_, fun g => otherR _ X hl i hiX g ⟨rfl, rfl⟩, ?_⟩
        try simp only [pmU, ft3, hiX, hx, h1, hw, h0', hcc, pm, pmW, pmB, ft, ↓reduceIte, reduceCtorEq, nE, nA, nM, nD, nL, iL, iT, iE, iN, iC]
        refine ⟨_, fun g => rowR49 _ X (by omega) i hiX g ⟨rfl, rfl⟩, ?_⟩
        try simp only [pmU, ft3, hiX, hx, h1, hw, h0', hcc, pm, pmW, pmB, ft, ↓reduceIte, reduceCtorEq, nE, nA, nM, nD, nL, iL, iT, iE, iN, iC]
        intro b hb
        refine tailC _ b _ _ _ _ _ _ _ _ hb ?_ ?_ ?_ ?_ ?_ ?_ ?_ ?_ ?_
        · simp [put]
        · rw [q1, hill, h1]; rfl
        · exact q2.symm
        · exact q3.symm
        · exact q4.symm
        · exact q5.symm
        · rw [q6, hbe]
        · exact q7.symm
        · exact q8.symm
  · have h0' : ¬ (0 : Int) < (i : Int) := by omega
    have hbe : behT cccT X i = false := by rw [behT, decide_eq_false h0, Bool.false_and]
    cases h1 : decide (at0 X i < 0)
    · try simp only [c29, ll29, r29_0, r29_1, r29_2, r29_3, r29_4, r29_5, r29_6, r29_7, r29_8, pmU, ft3, hiX, hx, h1, hw, h0', pm, pmW, pmB, ft, ↓reduceIte, reduceCtorEq, nE, nA, nM, nD, nL, iL, iT, iE, iN, iC]
      refine ⟨_, fun g => has49 _ O hO _ g ⟨rfl, rfl⟩, ?_⟩
      try simp only [pmU, ft3, hiX, hx, h1, hw, h0', pm, pmW, pmB, ft, ↓reduceIte, reduceCtorEq, nE, nA, nM, nD, nL, iL, iT, iE, iN, iC]
      refine ⟨_, fun g => has49 _ L hL _ g ⟨rfl, rfl⟩, ?_⟩
      try simp only [pmU, ft3, hiX, hx, h1, hw, h0', pm, pmW, pmB, ft, ↓reduceIte, reduceCtorEq, nE, nA, nM, nD, nL, iL, iT, iE, iN, iC]
      refine ⟨_, fun g => PresentedR _ g ⟨rfl, rfl⟩, ?_⟩
      try simp only [pmU, ft3, hiX, hx, h1, hw, h0', pm, pmW, pmB, ft, ↓reduceIte, reduceCtorEq, nE, nA, nM, nD, nL, iL, iT, iE, iN, iC]
      refine ⟨_, fun g => bareR49 _ X hl s i hiX (by omega) g ⟨rfl, rfl⟩, ?_⟩
      try simp only [pmU, ft3, hiX, hx, h1, hw, h0', pm, pmW, pmB, ft, ↓reduceIte, reduceCtorEq, nE, nA, nM, nD, nL, iL, iT, iE, iN, iC]
      refine ⟨_, fun g => otherR _ X hl i hiX g ⟨rfl, rfl⟩, ?_⟩
      try simp only [pmU, ft3, hiX, hx, h1, hw, h0', pm, pmW, pmB, ft, ↓reduceIte, reduceCtorEq, nE, nA, nM, nD, nL, iL, iT, iE, iN, iC]
      refine ⟨_, fun g => rowR49 _ X (by omega) i hiX g ⟨rfl, rfl⟩, ?_⟩
      try simp only [pmU, ft3, hiX, hx, h1, hw, h0', pm, pmW, pmB, ft, ↓reduceIte, reduceCtorEq, nE, nA, nM, nD, nL, iL, iT, iE, iN, iC]
      intro b hb
      refine tailC _ b _ _ _ _ _ _ _ _ hb ?_ ?_ ?_ ?_ ?_ ?_ ?_ ?_ ?_
      · simp [put]
      · rw [q1, hill, h1]; rfl
      · exact q2.symm
      · exact q3.symm
      · exact q4.symm
      · exact q5.symm
      · rw [q6, hbe]
      · exact q7.symm
      · exact q8.symm
    · try simp only [c29, ll29, r29_0, r29_1, r29_2, r29_3, r29_4, r29_5, r29_6, r29_7, r29_8, pmU, ft3, hiX, hx, h1, hw, h0', pm, pmW, pmB, ft, ↓reduceIte, reduceCtorEq, nE, nA, nM, nD, nL, iL, iT, iE, iN, iC]
      refine ⟨_, fun g => has49 _ O hO _ g ⟨rfl, rfl⟩, ?_⟩
      try simp only [pmU, ft3, hiX, hx, h1, hw, h0', pm, pmW, pmB, ft, ↓reduceIte, reduceCtorEq, nE, nA, nM, nD, nL, iL, iT, iE, iN, iC]
      refine ⟨_, fun g => has49 _ L hL _ g ⟨rfl, rfl⟩, ?_⟩
      try simp only [pmU, ft3, hiX, hx, h1, hw, h0', pm, pmW, pmB, ft, ↓reduceIte, reduceCtorEq, nE, nA, nM, nD, nL, iL, iT, iE, iN, iC]
      refine ⟨_, fun g => PresentedR _ g ⟨rfl, rfl⟩, ?_⟩
      try simp only [pmU, ft3, hiX, hx, h1, hw, h0', pm, pmW, pmB, ft, ↓reduceIte, reduceCtorEq, nE, nA, nM, nD, nL, iL, iT, iE, iN, iC]
      refine ⟨_, fun g => bareR49 _ X hl s i hiX (by omega) g ⟨rfl, rfl⟩, ?_⟩
      try simp only [pmU, ft3, hiX, hx, h1, hw, h0', pm, pmW, pmB, ft, ↓reduceIte, reduceCtorEq, nE, nA, nM, nD, nL, iL, iT, iE, iN, iC]
      refine ⟨_, fun g => otherR _ X hl i hiX g ⟨rfl, rfl⟩, ?_⟩
      try simp only [pmU, ft3, hiX, hx, h1, hw, h0', pm, pmW, pmB, ft, ↓reduceIte, reduceCtorEq, nE, nA, nM, nD, nL, iL, iT, iE, iN, iC]
      refine ⟨_, fun g => rowR49 _ X (by omega) i hiX g ⟨rfl, rfl⟩, ?_⟩
      try simp only [pmU, ft3, hiX, hx, h1, hw, h0', pm, pmW, pmB, ft, ↓reduceIte, reduceCtorEq, nE, nA, nM, nD, nL, iL, iT, iE, iN, iC]
      intro b hb
      refine tailC _ b _ _ _ _ _ _ _ _ hb ?_ ?_ ?_ ?_ ?_ ?_ ?_ ?_ ?_
      · simp [put]
      · rw [q1, hill, h1]; rfl
      · exact q2.symm
      · exact q3.symm
      · exact q4.symm
      · exact q5.symm
      · rw [q6, hbe]
      · exact q7.symm
      · exact q8.symm
end Go.Proofs.YtcgaphmndnmfdaaGreat
