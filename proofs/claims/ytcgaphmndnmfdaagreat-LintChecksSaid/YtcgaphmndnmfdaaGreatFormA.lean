/-
  Letters and their forms: the package forms and the document's answer.
  Conditions: none but those that each sentence tells.
-/
import Derived.Test.YtcgaphmndnmfdaaGreatForm0
import Derived.Test.YtcgaphmndnmfdaaGreatLig1
namespace Go.Proofs.YtcgaphmndnmfdaaGreat
open Go.Pm
open Nat renaming reduceEqDiff → nE, reduceAdd → nA, reduceMul → nM, reduceLeDiff → nD, reduceLT → nL
open Int renaming reduceLE → iL, reduceLT → iT, reduceEq → iE, reduceToNat → iN, cast_ofNat_Int → iC
set_option maxRecDepth 100000
set_option linter.unusedSimpArgs false
set_option linter.unusedVariables false

/-- Is it a form, and this code? -/
def isF (c f : Int) : Bool := decide (f ≠ 0) && decide (f = c)
/-- Whose form a code is, which one, and whether it is one. -/
def baseF (gs : List L5) (c : Int) : Int × Int × Bool := match gs.find? (fun p => (fl p).any (isF c)) with
  | none => (0, 0, false)
  | some p => (p.1, findI (isF c) (fl p) 0 + 1, true)
def baseP (gs : List L5) (c : Int) : PV := .tup [.int .i64 (baseF gs c).1, .int .i64 (baseF gs c).2.1, .bool (baseF gs c).2.2]
theorem of_ (c : Int) (h : Heap) {K : PV → Heap → Prop} (k : K (.tup [.agg [.int .i64 (baseF lets c).1, .int .i64 (baseF lets c).2.1], .bool (baseF lets c).2.2]) h) : CanP Tryz.prog 131 [.int .i64 c] h K := by
  refine e131 rfl ?_
  try simp only [c131, r131_0, r131_1, r131_2, r131_3, r131_4, r131_5, r131_6, r131_7, r131_8, r131_9, r131_10, r131_11, pm, pmW, pmB, ft, ↓reduceIte, reduceCtorEq, nE, nA, nM, nD, nL, iL, iT, iE, iN, iC]
  intro b2 hb2
  refine Letters _ ?_
  have hlen : lets.length ≤ 100 := by decide
  generalize lets = gs at *
  obtain ⟨Q, hQ⟩ : ∃ Q : L5 → Bool, Q = fun p => (fl p).any (isF c) := ⟨_, rfl⟩
  have hQ2 : ∀ p, Q p = (fl p).any (isF c) := fun p => by rw [hQ]
  have hbf : baseF gs c = match gs.find? Q with | none => (0, 0, false) | some p => (p.1, findI (isF c) (fl p) 0 + 1, true) := by rw [hQ]; rfl
  clear hQ
  try simp only [pm, pmW, pmB, ft, ↓reduceIte, reduceCtorEq, nE, nA, nM, nD, nL, iL, iT, iE, iN, iC]
  refine pwp_up gs.length (fun i σ h' => Own h h' b2 [.int .i64 0, .int .i64 0] ∧ h.le h' ∧ σ 0 = .int .i64 c ∧ σ 2 = .ptr b2 0 ∧ σ 8 = .list true 5 gs.length (gs.flatMap l5) ∧ σ 9 = .int .i64 gs.length ∧ σ 10 = .int .i64 i ∧
    gs.find? Q = (gs.drop i).find? Q) ?_ ?_
  · exact ⟨⟨hb2, Heap.set_same _ _ _⟩, Heap.le_set (Heap.le_refl _) hb2, rfl, rfl, rfl, rfl, rfl, rfl⟩
  · rintro i σ h' K' hi ⟨o, lh, s0, s2, s8, s9, s10, hp⟩ next
    have g2 := o.2
    try simp only [s8, s9, s10, cdK_dec, pm, pmW, pmB, ft, ↓reduceIte, reduceCtorEq, nE, nA, nM, nD, nL, iL, iT, iE, iN, iC]
    refine ⟨fun hlt => ?_, fun hge => ?_⟩
    · have hx := flat_at l5 5 l5_len gs hlt
      have hx2 : i * 5 + 5 ≤ (gs.flatMap l5).length := by rw [flat_length l5 5 l5_len]; omega
      rw [drop_getD gs hlt] at hp
      generalize gs.getD i default = p at *
      try simp only [hx, hx2, hlt, s8, s10, l5_len, old_l51, wr_l5, pm, pmW, pmB, ft, ↓reduceIte, reduceCtorEq, nE, nA, nM, nD, nL, iL, iT, iE, iN, iC]
      intro b hb
      try simp only [Heap.kill_none hb, l5_len, old_l51, wr_l5, fl_of, pm, pmW, pmB, ft, ↓reduceIte, reduceCtorEq, nE, nA, nM, nD, nL, iL, iT, iE, iN, iC]
      refine pwp_up 4 (fun j σ' h'' => h'' = h' ∧ σ' 0 = .int .i64 c ∧ σ' 2 = .ptr b2 0 ∧ (∃ fr, σ' 5 = .fptr fr (l5 p) 0) ∧ σ' 8 = .list true 5 gs.length (gs.flatMap l5) ∧ σ' 9 = .int .i64 gs.length ∧ σ' 10 = .int .i64 i ∧ σ' 15 = .agg ((fl p).map (.int .i64)) ∧ σ' 16 = .int .i64 j ∧
        findI (isF c) (fl p) 0 = findI (isF c) ((fl p).drop j) j) ?_ ?_
      · exact ⟨rfl, by simp [put, s0], by simp [put, s2], ⟨_, rfl⟩, by simp [put, s8], by simp [put, s9], by simp [put, s10], rfl, rfl, rfl⟩
      · rintro j σ' h'' K2 hj ⟨rfl, t0, t2, ⟨fr, t5⟩, t8, t9, t10, t15, t16, hq⟩ next2
        try simp only [t16, cdK_dec, pm, pmW, pmB, ft, ↓reduceIte, reduceCtorEq, nE, nA, nM, nD, nL, iL, iT, iE, iN, iC]
        refine ⟨fun hjl => ?_, fun hjg => ?_⟩
        · have hj4 : j < 4 := by omega
          have hj5 : (j : Int) < 4 := by omega
          have hjl' : j < (fl p).length := by rw [fl_len]; omega
          have hy := getm (.int .i64) (fl p) hjl'
          rw [drop_getD (fl p) hjl'] at hq
          have hmem : (fl p).getD j default ∈ fl p := by simp [List.getD, hjl']
          generalize (fl p).getD j default = f at *
          have yes : isF c f = true → baseF gs c = (p.1, (j : Int) + 1, true) := fun e => by
            rw [List.find?_cons_of_pos (by rw [hQ2]; exact List.any_eq_true.2 ⟨f, hmem, e⟩)] at hp
            rw [findI, if_pos e] at hq
            rw [hbf, hp]; simp only [hq]
          have no : isF c f = false → findI (isF c) (fl p) 0 = findI (isF c) ((fl p).drop (j + 1)) (j + 1 : Nat) := fun e => by
            rw [hq, findI, e, if_neg (by simp)]; rfl
          have hw : IntKind.i64.wrap ((j : Int) + 1) = (j : Int) + 1 := wrap_in (by omega) (by omega)
          try simp only [t0, t15, t16, hj4, hj5, hy, Nat.mul_one, hw, pm, pmW, pmB, ft, ↓reduceIte, reduceCtorEq, nE, nA, nM, nD, nL, iL, iT, iE, iN, iC]
          by_cases h1 : f = 0
          · have e : isF c f = false := by simp [isF, h1]
            try simp only [h1, t16, hw, pm, pmW, pmB, ft, ↓reduceIte, reduceCtorEq, nE, nA, nM, nD, nL, iL, iT, iE, iN, iC]
            exact next2 hj4 _ _ ⟨rfl, by simp [put, t0], by simp [put, t2], ⟨fr, by simp [put, t5]⟩, by simp [put, t8], by simp [put, t9], by simp [put, t10], by simp [put, t15], by simp [put], no e⟩
          · by_cases h2 : f = c
            · have e : isF c f = true := by unfold isF; rw [decide_eq_true h1, decide_eq_true h2]; rfl
              have hd := decide_eq_true h2
              rw [yes e] at k
              try simp only [h1, hd, t0, t2, t5, t16, hw, l5, g2, pm, pmW, pmB, ft, ↓reduceIte, reduceCtorEq, nE, nA, nM, nD, nL, iL, iT, iE, iN, iC]
              exact finK_le (o.le lh) k
            · have e : isF c f = false := by simp [isF, h2]
              try simp only [h1, h2, t0, t16, hw, pm, pmW, pmB, ft, ↓reduceIte, reduceCtorEq, nE, nA, nM, nD, nL, iL, iT, iE, iN, iC]
              exact next2 hj4 _ _ ⟨rfl, by simp [put, t0], by simp [put, t2], ⟨fr, by simp [put, t5]⟩, by simp [put, t8], by simp [put, t9], by simp [put, t10], by simp [put, t15], by simp [put], no e⟩
        · have hj4 : j = 4 := by omega
          subst hj4
          have hno : ¬ (fl p).any (isF c) = true := by
            rw [List.drop_eq_nil_of_le (by rw [fl_len]; omega)] at hq
            rcases findI_cases (isF c) (fl p) 0 with ⟨_, a⟩ | ⟨q, _, e, _⟩
            · rw [List.any_eq_true]; rintro ⟨x, hx, e⟩; rw [a x hx] at e; cases e
            · rw [e] at hq; simp only [findI] at hq; omega
          rw [List.find?_cons_of_neg (by rw [hQ2]; exact hno)] at hp
          try simp only [t10, pm, pmW, pmB, ft, ↓reduceIte, reduceCtorEq, nE, nA, nM, nD, nL, iL, iT, iE, iN, iC]
          rw [wrap_in (by omega) (by omega)]
          exact next hlt _ _ ⟨o, lh, by simp [put, t0], by simp [put, t2], by simp [put, t8], by simp [put, t9], by simp [put], hp⟩
    · rw [List.drop_eq_nil_of_le (by omega)] at hp
      rw [hbf, hp] at k
      try simp only [s2, g2, pm, pmW, pmB, ft, ↓reduceIte, reduceCtorEq, nE, nA, nM, nD, nL, iL, iT, iE, iN, iC]
      exact finK_le (o.le lh) k
theorem Base (c : Int) (h : Heap) {K : PV → Heap → Prop} (k : K (baseP lets c) h) : CanP Tryz.prog 104 [.int .i64 c] h K := by
  refine e104 rfl ?_
  try simp only [c104, r104_0, r104_1, r104_2, pm, pmW, pmB, ft, ↓reduceIte, reduceCtorEq, nE, nA, nM, nD, nL, iL, iT, iE, iN, iC]
  refine of_ _ _ ?_
  try simp only [pm, pmW, pmB, ft, ↓reduceIte, reduceCtorEq, nE, nA, nM, nD, nL, iL, iT, iE, iN, iC]
  intro b hb
  try simp only [Heap.kill_none hb, pm, pmW, pmB, ft, ↓reduceIte, reduceCtorEq, nE, nA, nM, nD, nL, iL, iT, iE, iN, iC]
  exact finK_le (Heap.le_refl _) k
theorem BaseR (c : Int) (h : Heap) {K : PV → Heap → Prop} (k : K (baseP lets c) h) : CanP Tryz.prog 40 [.int .i64 c] h K := by
  refine e40 rfl ?_
  try simp only [c40, r40_0, r40_1, r40_2, r40_3, r40_4, r40_5, r40_6, r40_7, r40_8, r40_9, r40_10, pm, pmW, pmB, ft, ↓reduceIte, reduceCtorEq, nE, nA, nM, nD, nL, iL, iT, iE, iN, iC]
  refine Letters _ ?_
  have hlen : lets.length ≤ 100 := by decide
  generalize lets = gs at *
  obtain ⟨Q, hQ⟩ : ∃ Q : L5 → Bool, Q = fun p => (fl p).any (isF c) := ⟨_, rfl⟩
  have hQ2 : ∀ p, Q p = (fl p).any (isF c) := fun p => by rw [hQ]
  have hbf : baseF gs c = match gs.find? Q with | none => (0, 0, false) | some p => (p.1, findI (isF c) (fl p) 0 + 1, true) := by rw [hQ]; rfl
  clear hQ
  rw [baseP] at k
  try simp only [pm, pmW, pmB, ft, ↓reduceIte, reduceCtorEq, nE, nA, nM, nD, nL, iL, iT, iE, iN, iC]
  refine pwp_up gs.length (fun i σ h' => h' = h ∧ σ 0 = .int .i64 c ∧ σ 5 = .list true 5 gs.length (gs.flatMap l5) ∧ σ 6 = .int .i64 i ∧ gs.find? Q = (gs.drop i).find? Q) ?_ ?_
  · exact ⟨rfl, rfl, rfl, rfl, rfl⟩
  · rintro i σ h' K' hi ⟨rfl, s0, s5, s6, hp⟩ next
    try simp only [s5, s6, cdK_dec, pm, pmW, pmB, ft, ↓reduceIte, reduceCtorEq, nE, nA, nM, nD, nL, iL, iT, iE, iN, iC]
    refine ⟨fun hlt => ?_, fun hge => ?_⟩
    · have x0 := flat_get l5 5 l5_len gs hlt (j := 0) (by omega)
      rw [Nat.add_zero] at x0
      have xj := fun (j : Nat) (hj : j + 1 < 5) => flat_get l5 5 l5_len gs hlt (j := j + 1) hj
      rw [drop_getD gs hlt] at hp
      generalize gs.getD i default = p at *
      try simp only [s6, pm, pmW, pmB, ft, ↓reduceIte, reduceCtorEq, nE, nA, nM, nD, nL, iL, iT, iE, iN, iC]
      refine pwp_up 4 (fun j σ' h'' => h'' = h' ∧ σ' 0 = .int .i64 c ∧ σ' 5 = .list true 5 gs.length (gs.flatMap l5) ∧ σ' 6 = .int .i64 i ∧ σ' 7 = .int .i64 j ∧
        findI (isF c) (fl p) 0 = findI (isF c) ((fl p).drop j) j) ?_ ?_
      · exact ⟨rfl, by simp [put, s0], by simp [put, s5], by simp [put, s6], rfl, rfl⟩
      · rintro j σ' h'' K2 hj ⟨rfl, t0, t5, t6, t7, hq⟩ next2
        try simp only [t7, cdK_dec, pm, pmW, pmB, ft, ↓reduceIte, reduceCtorEq, nE, nA, nM, nD, nL, iL, iT, iE, iN, iC]
        refine ⟨fun hjl => ?_, fun hjg => ?_⟩
        · have hj4 : j < 4 := by omega
          have hj5 : (j : Int) < 4 := by omega
          have hjl' : j < (fl p).length := by rw [fl_len]; omega
          have hy := getm (PV.int .i64) (fl p) hjl'
          have xj := xj j (by omega)
          rw [show (l5 p)[j + 1]? = ((fl p).map (PV.int .i64))[j]? from rfl, hy] at xj
          have hadd : i * 5 + (j + 1) = i * 5 + 1 + j := by omega
          rw [hadd] at xj
          rw [drop_getD (fl p) hjl'] at hq
          have hmem : (fl p).getD j default ∈ fl p := by simp [List.getD, hjl']
          generalize (fl p).getD j default = f at *
          have yes : isF c f = true → baseF gs c = (p.1, (j : Int) + 1, true) := fun e => by
            rw [List.find?_cons_of_pos (by rw [hQ2]; exact List.any_eq_true.2 ⟨f, hmem, e⟩)] at hp
            rw [findI, if_pos e] at hq
            rw [hbf, hp]; simp only [hq]
          have no : isF c f = false → findI (isF c) (fl p) 0 = findI (isF c) ((fl p).drop (j + 1)) (j + 1 : Nat) := fun e => by
            rw [hq, findI, e, if_neg (by simp)]; rfl
          have hw : IntKind.i64.wrap ((j : Int) + 1) = (j : Int) + 1 := wrap_in (by omega) (by omega)
          by_cases h1 : c = 0
          · have e : isF c f = false := by simp only [isF, h1]; by_cases hf : f = 0 <;> simp [hf]
            try simp only [h1, t0, t5, t6, t7, hw, pm, pmW, pmB, ft, ↓reduceIte, reduceCtorEq, nE, nA, nM, nD, nL, iL, iT, iE, iN, iC]
            exact next2 hj4 _ _ ⟨rfl, by simp [put, t0, h1], by simp [put, t5], by simp [put, t6], by simp [put], no e⟩
          · by_cases h2 : f = c
            · have e : isF c f = true := by unfold isF; rw [decide_eq_true h2, decide_eq_true (show f ≠ 0 from fun e => h1 (h2 ▸ e))]; rfl
              have hd := decide_eq_true h2
              rw [yes e] at k
              rw [show (l5 p)[0]? = some (PV.int .i64 p.1) from rfl] at x0
              try simp only [h1, hd, t0, t5, t6, t7, hlt, hj4, hj5, Nat.mul_one, xj, hw, x0, pm, pmW, pmB, ft, ↓reduceIte, reduceCtorEq, nE, nA, nM, nD, nL, iL, iT, iE, iN, iC]
              exact finK_le (Heap.le_refl _) k
            · have e : isF c f = false := by simp [isF, h2]
              try simp only [h1, h2, t0, t5, t6, t7, hlt, hj4, hj5, Nat.mul_one, xj, hw, pm, pmW, pmB, ft, ↓reduceIte, reduceCtorEq, nE, nA, nM, nD, nL, iL, iT, iE, iN, iC]
              exact next2 hj4 _ _ ⟨rfl, by simp [put, t0], by simp [put, t5], by simp [put, t6], by simp [put], no e⟩
        · have hj4 : j = 4 := by omega
          subst hj4
          have hno : ¬ (fl p).any (isF c) = true := by
            rw [List.drop_eq_nil_of_le (by rw [fl_len]; omega)] at hq
            rcases findI_cases (isF c) (fl p) 0 with ⟨_, a⟩ | ⟨q, _, e, _⟩
            · rw [List.any_eq_true]; rintro ⟨x, hx, e⟩; rw [a x hx] at e; cases e
            · rw [e] at hq; simp only [findI] at hq; omega
          rw [List.find?_cons_of_neg (by rw [hQ2]; exact hno)] at hp
          try simp only [t6, pm, pmW, pmB, ft, ↓reduceIte, reduceCtorEq, nE, nA, nM, nD, nL, iL, iT, iE, iN, iC]
          rw [wrap_in (by omega) (by omega)]
          exact next hlt _ _ ⟨rfl, by simp [put, t0], by simp [put, t5], by simp [put], hp⟩
    · rw [List.drop_eq_nil_of_le (by omega)] at hp
      rw [hbf, hp] at k
      try simp only [s5, pm, pmW, pmB, ft, ↓reduceIte, reduceCtorEq, nE, nA, nM, nD, nL, iL, iT, iE, iN, iC]
      exact finK_le (Heap.le_refl _) k
end Go.Proofs.YtcgaphmndnmfdaaGreat

/-
  A letter's form: the package forms and the document's answer.
  Conditions: none but those that each sentence tells.
-/
namespace Go.Proofs.YtcgaphmndnmfdaaGreat
open Go.Pm
open Nat renaming reduceEqDiff → nE, reduceAdd → nA, reduceMul → nM, reduceLeDiff → nD, reduceLT → nL
open Int renaming reduceLE → iL, reduceLT → iT, reduceEq → iE, reduceToNat → iN, cast_ofNat_Int → iC
set_option maxRecDepth 100000
set_option linter.unusedSimpArgs false
set_option linter.unusedVariables false

theorem rises_all : (((List.range 75).all fun i => decide ((lets.getD i default).1 < (lets.getD (i + 1) default).1)) && ((List.range 76).all fun i => decide (0 < (lets.getD i default).1 ∧ (lets.getD i default).1 < 65536))) = true := by kernel_rfl
theorem lets_len : lets.length = 76 := rfl
theorem rises {i j : Nat} (hij : i < j) (hj : j < lets.length) : (lets.getD i default).1 < (lets.getD j default).1 := by
  have h := List.all_eq_true.1 (Bool.and_eq_true_iff.1 rises_all).1
  rw [lets_len] at hj
  induction j with
  | zero => omega
  | succ j ih =>
    have := h j (by simp; omega)
    simp only [decide_eq_true_eq] at this
    rcases Nat.lt_or_ge i j with q | q
    · have := ih q (by omega); omega
    · have : i = j := by omega
      subst this; assumption
theorem keys {i : Nat} (h : i < lets.length) : 0 < (lets.getD i default).1 ∧ (lets.getD i default).1 < 65536 := by
  rw [lets_len] at h
  have := List.all_eq_true.1 (Bool.and_eq_true_iff.1 rises_all).2 i (by simpa using h)
  simpa using this
def key (gs : List L5) (i : Nat) : Int := (gs.getD i default).1
/-- A letter's form; whether there is one. -/
def formQ (b f : Int) (p : L5) : Bool := decide (p.1 = b) && (decide (1 ≤ f ∧ f ≤ 4) && decide ((fl p).getD (f - 1).toNat default ≠ 0))
def formF (gs : List L5) (b f : Int) : Int × Bool := match gs.find? (formQ b f) with
  | none => (0, false)
  | some p => ((fl p).getD (f - 1).toNat default, true)
def formP (gs : List L5) (b f : Int) : PV := .tup [.int .i64 (formF gs b f).1, .bool (formF gs b f).2]
theorem getD_mem {α : Type} [Inhabited α] {l : List α} {x : α} (h : x ∈ l) : ∃ i, i < l.length ∧ l.getD i default = x := by
  obtain ⟨i, h1, h2⟩ := List.mem_iff_getElem.1 h
  exact ⟨i, h1, by simp [List.getD, h1, h2]⟩
theorem find_key {b f : Int} {p : Nat} (hp : p < lets.length) (hk : key lets p = b) : lets.find? (formQ b f) = if formQ b f (lets.getD p default) then some (lets.getD p default) else none := by
  cases e : lets.find? (formQ b f) with
  | none =>
    have := List.find?_eq_none.1 e (lets.getD p default) (by simp [List.getD, hp])
    rw [if_neg this]
  | some x =>
    have h1 := List.find?_some e
    obtain ⟨i, h2, h3⟩ := getD_mem (List.mem_of_find?_eq_some e)
    have hx : x.1 = b := by
      unfold formQ at h1
      simp only [Bool.and_eq_true, decide_eq_true_eq] at h1
      exact h1.1
    unfold key at hk
    have : i = p := by
      rcases Nat.lt_trichotomy i p with q | q | q
      · have := rises q hp; rw [h3] at this; omega
      · exact q
      · have := rises q h2; rw [h3] at this; omega
    subst this
    rw [h3, if_pos h1]
theorem find_no {b f : Int} (h : ∀ i, i < lets.length → key lets i ≠ b) : lets.find? (formQ b f) = none := by
  rw [List.find?_eq_none]
  intro x hx
  obtain ⟨i, h2, h3⟩ := getD_mem hx
  have := h i h2
  unfold key at this
  rw [h3] at this
  simp [formQ, this]
end Go.Proofs.YtcgaphmndnmfdaaGreat

/-
  Lam with alef, marks and piles: whose form a code is; what is a form at all: the package forms and the document's answer.
  Conditions: none but those that each sentence tells.
-/
namespace Go.Proofs.YtcgaphmndnmfdaaGreat
open Go.Pm
open Nat renaming reduceEqDiff → nE, reduceAdd → nA, reduceMul → nM, reduceLeDiff → nD, reduceLT → nL
open Int renaming reduceLE → iL, reduceLT → iT, reduceEq → iE, reduceToNat → iN, cast_ofNat_Int → iC
set_option maxRecDepth 100000
set_option linter.unusedSimpArgs false
set_option linter.unusedVariables false

def accs : List I3 := [(1611, 65136, 65137), (1612, 65138, 0), (1613, 65140, 0), (1614, 65142, 65143), (1615, 65144, 65145), (1616, 65146, 65147), (1617, 65148, 65149), (1618, 65150, 65151)]
theorem Accents (h : Heap) {K : PV → Heap → Prop} (k : K (.list true 3 accs.length (accs.flatMap i3)) h) : CanP Tryz.prog 82 [] h K := by
  refine e82 rfl ?_
  try simp only [c82, r82_0, r82_1, pm, pmW, pmB, ft, ↓reduceIte, reduceCtorEq, nE, nA, nM, nD, nL, iL, iT, iE, iN, iC]
  exact finK_le (Heap.le_refl _) k
abbrev I2 := Int × Int
def i2 (p : I2) : List PV := [.int .i64 p.1, .int .i64 p.2]
theorem i2_len (p : I2) : (i2 p).length = 2 := rfl
def pils : List I2 := [(1612, 64606), (1613, 64607), (1614, 64608), (1615, 64609), (1616, 64610), (1648, 64611)]
theorem Piles (h : Heap) {K : PV → Heap → Prop} (k : K (.list true 2 pils.length (pils.flatMap i2)) h) : CanP Tryz.prog 83 [] h K := by
  refine e83 rfl ?_
  try simp only [c83, r83_0, r83_1, pm, pmW, pmB, ft, ↓reduceIte, reduceCtorEq, nE, nA, nM, nD, nL, iL, iT, iE, iN, iC]
  exact finK_le (Heap.le_refl _) k
def partQ (c : Int) (x : I3) : Bool := decide (x.2.1 = c) || decide (x.2.2 = c)
/-- Which alef a lam with alef has, and its form. -/
def partP (gs : List I3) (c : Int) : Int × Int × Bool := match gs.find? (partQ c) with | none => (0, 0, false) | some x => (x.1, if x.2.1 = c then 1 else 2, true)
def markQ (c : Int) (x : I3) : Bool := decide (x.2.1 = c) || (decide (c ≠ 0) && decide (x.2.2 = c))
/-- Whose form a code is, and whether it is the medial one. -/
def markP (gs : List I3) (c : Int) : Int × Bool × Bool := match gs.find? (markQ c) with | none => (0, false, false) | some x => (x.1, !decide (x.2.1 = c), true)
def fq3 (c : Int) (x : I3) : Bool := decide (x.1 = c)
def fq2 (c : Int) (x : I2) : Bool := decide (x.1 = c)
def sq2 (c : Int) (x : I2) : Bool := decide (x.2 = c)
def accP (gs : List I3) (c : Int) (med : Bool) : Int × Bool := match gs.find? (fq3 c) with | none => (0, false) | some x => if med then (x.2.2, decide (x.2.2 ≠ 0)) else (x.2.1, true)
def pileP (gs : List I2) (c : Int) : Int × Bool := match gs.find? (fq2 c) with | none => (0, false) | some x => (x.2, true)
def unpP (gs : List I2) (c : Int) : Int × Bool := match gs.find? (sq2 c) with | none => (0, false) | some x => (x.1, true)
def t3 (p : Int × Int × Bool) : PV := .tup [.int .i64 p.1, .int .i64 p.2.1, .bool p.2.2]
def t3b (p : Int × Bool × Bool) : PV := .tup [.int .i64 p.1, .bool p.2.1, .bool p.2.2]
def t2 (p : Int × Bool) : PV := .tup [.int .i64 p.1, .bool p.2]
theorem Parted (c : Int) (h : Heap) {K : PV → Heap → Prop} (k : K (t3 (partP ligs c)) h) : CanP Tryz.prog 105 [.int .i64 c] h K := by
  refine e105 rfl ?_
  try simp only [c105, r105_0, r105_1, r105_2, r105_3, r105_4, r105_5, r105_6, r105_7, r105_8, r105_9, r105_10, pm, pmW, pmB, ft, ↓reduceIte, reduceCtorEq, nE, nA, nM, nD, nL, iL, iT, iE, iN, iC]
  refine Ligatures _ ?_
  have hlen : ligs.length ≤ 100 := by decide
  unfold partP at k
  generalize ligs = gs at *
  try simp only [pm, pmW, pmB, ft, ↓reduceIte, reduceCtorEq, nE, nA, nM, nD, nL, iL, iT, iE, iN, iC]
  refine pwp_up gs.length (fun i σ h' => h' = h ∧ σ 0 = .int .i64 c ∧ σ 7 = .list true 3 gs.length (gs.flatMap i3) ∧ σ 8 = .int .i64 gs.length ∧ σ 9 = .int .i64 i ∧ gs.find? (partQ c) = (gs.drop i).find? (partQ c)) ?_ ?_
  · exact ⟨rfl, rfl, rfl, rfl, rfl, rfl⟩
  · rintro i σ h' K' hi ⟨rfl, s0, sL, sN, sI, hp⟩ next
    try simp only [sL, sN, sI, cdK_dec, pm, pmW, pmB, ft, ↓reduceIte, reduceCtorEq, nE, nA, nM, nD, nL, iL, iT, iE, iN, iC]
    refine ⟨fun hlt => ?_, fun hge => ?_⟩
    · have hx := flat_at i3 3 i3_len gs hlt
      have hx2 : i * 3 + 3 ≤ (gs.flatMap i3).length := by rw [flat_length i3 3 i3_len]; omega
      have hw : IntKind.i64.wrap ((i : Int) + 1) = (i : Int) + 1 := wrap_in (by omega) (by omega)
      rw [drop_getD gs hlt] at hp
      generalize gs.getD i default = x at *
      have no : (partQ c) x = false → ∀ σ' : Sl, σ' 0 = σ 0 → σ' 7 = σ 7 → σ' 8 = σ 8 → σ' 9 = .int .i64 (i + 1 : Nat) → K' σ' h' := fun e σ' q0 qL qN qI => by
        rw [List.find?_cons_of_neg (by rw [e]; simp)] at hp
        exact next hlt _ _ ⟨rfl, q0.trans s0, qL.trans sL, qN.trans sN, qI, hp⟩
      have yes : (partQ c) x = true → gs.find? (partQ c) = some x := fun e => by rw [hp, List.find?_cons_of_pos e]
      try simp only [hx, hx2, hlt, sL, sI, i3, pm, pmW, pmB, ft, ↓reduceIte, reduceCtorEq, nE, nA, nM, nD, nL, iL, iT, iE, iN, iC]
      intro b hb
      try simp only [Heap.kill_none hb, s0, pm, pmW, pmB, ft, ↓reduceIte, reduceCtorEq, nE, nA, nM, nD, nL, iL, iT, iE, iN, iC]
      by_cases h1 : x.2.1 = c
      · have hd := decide_eq_true h1
        have hd' := decide_eq_true h1.symm
        rw [yes (by simp [partQ, h1])] at k
        try simp only [s0, hd, hd', pm, pmW, pmB, ft, ↓reduceIte, reduceCtorEq, nE, nA, nM, nD, nL, iL, iT, iE, iN, iC]
        exact finK_le (Heap.le_refl _) (by dsimp only [t3] at k; simpa [h1] using k)
      · have hn := decide_eq_false h1
        have hn' := decide_eq_false (Ne.symm h1)
        by_cases h2 : x.2.2 = c
        · have hd := decide_eq_true h2
          have hd' := decide_eq_true h2.symm
          rw [yes (by simp [partQ, h2])] at k
          try simp only [s0, hn, hn', hd, hd', pm, pmW, pmB, ft, ↓reduceIte, reduceCtorEq, nE, nA, nM, nD, nL, iL, iT, iE, iN, iC]
          exact finK_le (Heap.le_refl _) (by dsimp only [t3] at k; simpa [h1] using k)
        · have hd := decide_eq_false h2
          have hd' := decide_eq_false (Ne.symm h2)
          try simp only [s0, hn, hn', hd, hd', sI, hw, pm, pmW, pmB, ft, ↓reduceIte, reduceCtorEq, nE, nA, nM, nD, nL, iL, iT, iE, iN, iC]
          exact no (by simp [partQ, h1, h2]) _ (by simp [put]) (by simp [put]) (by simp [put]) (by simp [put])
    · rw [List.drop_eq_nil_of_le (by omega)] at hp
      rw [hp] at k
      try simp only [sI, pm, pmW, pmB, ft, ↓reduceIte, reduceCtorEq, nE, nA, nM, nD, nL, iL, iT, iE, iN, iC]
      exact finK_le (Heap.le_refl _) k
theorem PartedR (c : Int) (h : Heap) {K : PV → Heap → Prop} (k : K (t3 (partP ligs c)) h) : CanP Tryz.prog 41 [.int .i64 c] h K := by
  refine e41 rfl ?_
  try simp only [c41, r41_0, r41_1, r41_2, r41_3, r41_4, r41_5, r41_6, r41_7, r41_8, r41_9, pm, pmW, pmB, ft, ↓reduceIte, reduceCtorEq, nE, nA, nM, nD, nL, iL, iT, iE, iN, iC]
  refine Ligatures _ ?_
  have hlen : ligs.length ≤ 100 := by decide
  unfold partP at k
  generalize ligs = gs at *
  try simp only [pm, pmW, pmB, ft, ↓reduceIte, reduceCtorEq, nE, nA, nM, nD, nL, iL, iT, iE, iN, iC]
  refine pwp_up gs.length (fun i σ h' => h' = h ∧ σ 0 = .int .i64 c ∧ σ 5 = .list true 3 gs.length (gs.flatMap i3) ∧ σ 6 = .int .i64 i ∧ gs.find? (partQ c) = (gs.drop i).find? (partQ c)) ?_ ?_
  · exact ⟨rfl, rfl, rfl, rfl, rfl⟩
  · rintro i σ h' K' hi ⟨rfl, s0, sL, sI, hp⟩ next
    try simp only [sL, sI, cdK_dec, pm, pmW, pmB, ft, ↓reduceIte, reduceCtorEq, nE, nA, nM, nD, nL, iL, iT, iE, iN, iC]
    refine ⟨fun hlt => ?_, fun hge => ?_⟩
    · have x0 := flat_get i3 3 i3_len gs hlt (j := 0) (by omega)
      have x1 := flat_get i3 3 i3_len gs hlt (j := 1) (by omega)
      have x2 := flat_get i3 3 i3_len gs hlt (j := 2) (by omega)
      rw [Nat.add_zero] at x0
      have hw : IntKind.i64.wrap ((i : Int) + 1) = (i : Int) + 1 := wrap_in (by omega) (by omega)
      rw [drop_getD gs hlt] at hp
      generalize gs.getD i default = x at *
      simp only [i3, List.getElem?_cons_zero, List.getElem?_cons_succ] at x0 x1 x2
      have no : (partQ c) x = false → ∀ σ' : Sl, σ' 0 = σ 0 → σ' 5 = σ 5 → σ' 6 = .int .i64 (i + 1 : Nat) → K' σ' h' := fun e σ' q0 qL qI => by
        rw [List.find?_cons_of_neg (by rw [e]; simp)] at hp
        exact next hlt _ _ ⟨rfl, q0.trans s0, qL.trans sL, qI, hp⟩
      have yes : (partQ c) x = true → gs.find? (partQ c) = some x := fun e => by rw [hp, List.find?_cons_of_pos e]
      by_cases h1 : x.2.1 = c
      · have hd := decide_eq_true h1
        have hd' := decide_eq_true h1.symm
        rw [yes (by simp [partQ, h1])] at k
        try simp only [x0, x1, x2, hlt, s0, sL, sI, hd, hd', pm, pmW, pmB, ft, ↓reduceIte, reduceCtorEq, nE, nA, nM, nD, nL, iL, iT, iE, iN, iC]
        exact finK_le (Heap.le_refl _) (by dsimp only [t3] at k; simpa [h1] using k)
      · have hn := decide_eq_false h1
        have hn' := decide_eq_false (Ne.symm h1)
        by_cases h2 : x.2.2 = c
        · have hd := decide_eq_true h2
          have hd' := decide_eq_true h2.symm
          rw [yes (by simp [partQ, h2])] at k
          try simp only [x0, x1, x2, hlt, s0, sL, sI, hn, hn', hd, hd', pm, pmW, pmB, ft, ↓reduceIte, reduceCtorEq, nE, nA, nM, nD, nL, iL, iT, iE, iN, iC]
          exact finK_le (Heap.le_refl _) (by dsimp only [t3] at k; simpa [h1] using k)
        · have hd := decide_eq_false h2
          have hd' := decide_eq_false (Ne.symm h2)
          try simp only [x0, x1, x2, hlt, s0, sL, sI, hn, hn', hd, hd', sI, hw, pm, pmW, pmB, ft, ↓reduceIte, reduceCtorEq, nE, nA, nM, nD, nL, iL, iT, iE, iN, iC]
          exact no (by simp [partQ, h1, h2]) _ (by simp [put]) (by simp [put]) (by simp [put])
    · rw [List.drop_eq_nil_of_le (by omega)] at hp
      rw [hp] at k
      try simp only [sI, pm, pmW, pmB, ft, ↓reduceIte, reduceCtorEq, nE, nA, nM, nD, nL, iL, iT, iE, iN, iC]
      exact finK_le (Heap.le_refl _) k
theorem Mark0 (c : Int) (hc : c ≠ 0) (h : Heap) {K : PV → Heap → Prop} (k : K (t3b (markP accs c)) h) : CanP Tryz.prog 106 [.int .i64 c] h K := by
  refine e106 rfl ?_
  try simp only [c106, r106_0, r106_1, r106_2, r106_3, r106_4, r106_5, r106_6, r106_7, r106_8, r106_9, r106_10, r106_11, r106_12, pm, pmW, pmB, ft, ↓reduceIte, reduceCtorEq, nE, nA, nM, nD, nL, iL, iT, iE, iN, iC]
  try simp only [hc, pm, pmW, pmB, ft, ↓reduceIte, reduceCtorEq, nE, nA, nM, nD, nL, iL, iT, iE, iN, iC]
  refine Accents _ ?_
  have hlen : accs.length ≤ 100 := by decide
  unfold markP at k
  generalize accs = gs at *
  try simp only [pm, pmW, pmB, ft, ↓reduceIte, reduceCtorEq, nE, nA, nM, nD, nL, iL, iT, iE, iN, iC]
  refine pwp_up gs.length (fun i σ h' => h' = h ∧ σ 0 = .int .i64 c ∧ σ 9 = .list true 3 gs.length (gs.flatMap i3) ∧ σ 10 = .int .i64 gs.length ∧ σ 11 = .int .i64 i ∧ gs.find? (markQ c) = (gs.drop i).find? (markQ c)) ?_ ?_
  · exact ⟨rfl, rfl, rfl, rfl, rfl, rfl⟩
  · rintro i σ h' K' hi ⟨rfl, s0, sL, sN, sI, hp⟩ next
    try simp only [sL, sN, sI, cdK_dec, pm, pmW, pmB, ft, ↓reduceIte, reduceCtorEq, nE, nA, nM, nD, nL, iL, iT, iE, iN, iC]
    refine ⟨fun hlt => ?_, fun hge => ?_⟩
    · have hx := flat_at i3 3 i3_len gs hlt
      have hx2 : i * 3 + 3 ≤ (gs.flatMap i3).length := by rw [flat_length i3 3 i3_len]; omega
      have hw : IntKind.i64.wrap ((i : Int) + 1) = (i : Int) + 1 := wrap_in (by omega) (by omega)
      rw [drop_getD gs hlt] at hp
      generalize gs.getD i default = x at *
      have no : (markQ c) x = false → ∀ σ' : Sl, σ' 0 = σ 0 → σ' 9 = σ 9 → σ' 10 = σ 10 → σ' 11 = .int .i64 (i + 1 : Nat) → K' σ' h' := fun e σ' q0 qL qN qI => by
        rw [List.find?_cons_of_neg (by rw [e]; simp)] at hp
        exact next hlt _ _ ⟨rfl, q0.trans s0, qL.trans sL, qN.trans sN, qI, hp⟩
      have yes : (markQ c) x = true → gs.find? (markQ c) = some x := fun e => by rw [hp, List.find?_cons_of_pos e]
      try simp only [hx, hx2, hlt, sL, sI, i3, pm, pmW, pmB, ft, ↓reduceIte, reduceCtorEq, nE, nA, nM, nD, nL, iL, iT, iE, iN, iC]
      intro b hb
      try simp only [Heap.kill_none hb, s0, pm, pmW, pmB, ft, ↓reduceIte, reduceCtorEq, nE, nA, nM, nD, nL, iL, iT, iE, iN, iC]
      by_cases h1 : x.2.1 = c
      · have hd := decide_eq_true h1
        have hd' := decide_eq_true h1.symm
        rw [yes (by simp [markQ, h1])] at k
        try simp only [s0, hd, hd', pm, pmW, pmB, ft, ↓reduceIte, reduceCtorEq, nE, nA, nM, nD, nL, iL, iT, iE, iN, iC]
        exact finK_le (Heap.le_refl _) (by dsimp only [t3b] at k; simpa [h1] using k)
      · have hn := decide_eq_false h1
        have hn' := decide_eq_false (Ne.symm h1)
        by_cases h2 : x.2.2 = c
        · have hd := decide_eq_true h2
          have hd' := decide_eq_true h2.symm
          rw [yes (by simp [markQ, h2, hc])] at k
          try simp only [s0, hn, hn', hd, hd', pm, pmW, pmB, ft, ↓reduceIte, reduceCtorEq, nE, nA, nM, nD, nL, iL, iT, iE, iN, iC]
          exact finK_le (Heap.le_refl _) (by dsimp only [t3b] at k; simpa [h1] using k)
        · have hd := decide_eq_false h2
          have hd' := decide_eq_false (Ne.symm h2)
          try simp only [s0, hn, hn', hd, hd', sI, hw, pm, pmW, pmB, ft, ↓reduceIte, reduceCtorEq, nE, nA, nM, nD, nL, iL, iT, iE, iN, iC]
          exact no (by simp [markQ, h1, h2]) _ (by simp [put]) (by simp [put]) (by simp [put]) (by simp [put])
    · rw [List.drop_eq_nil_of_le (by omega)] at hp
      rw [hp] at k
      try simp only [sI, pm, pmW, pmB, ft, ↓reduceIte, reduceCtorEq, nE, nA, nM, nD, nL, iL, iT, iE, iN, iC]
      exact finK_le (Heap.le_refl _) k
theorem accs_no : ∀ x ∈ accs, markQ 0 x = false := by decide
theorem mark_zero : markP accs 0 = (0, false, false) := by unfold markP; rw [List.find?_eq_none.2 fun x hx => by rw [accs_no x hx]; simp]
theorem FMark (c : Int) (h : Heap) {K : PV → Heap → Prop} (k : K (t3b (markP accs c)) h) : CanP Tryz.prog 106 [.int .i64 c] h K := by
  by_cases hc : c = 0
  · subst hc
    rw [mark_zero] at k
    refine e106 rfl ?_
    try simp only [c106, r106_0, r106_1, r106_2, r106_3, r106_4, r106_5, r106_6, r106_7, r106_8, r106_9, r106_10, r106_11, r106_12, pm, pmW, pmB, ft, ↓reduceIte, reduceCtorEq, nE, nA, nM, nD, nL, iL, iT, iE, iN, iC]
    exact finK_le (Heap.le_refl _) k
  · exact Mark0 c hc h k
theorem FMarkR (c : Int) (h : Heap) {K : PV → Heap → Prop} (k : K (t3b (markP accs c)) h) : CanP Tryz.prog 42 [.int .i64 c] h K := by
  refine e42 rfl ?_
  try simp only [c42, r42_0, r42_1, r42_2, r42_3, r42_4, r42_5, r42_6, r42_7, r42_8, r42_9, pm, pmW, pmB, ft, ↓reduceIte, reduceCtorEq, nE, nA, nM, nD, nL, iL, iT, iE, iN, iC]
  refine Accents _ ?_
  have hlen : accs.length ≤ 100 := by decide
  unfold markP at k
  generalize accs = gs at *
  try simp only [pm, pmW, pmB, ft, ↓reduceIte, reduceCtorEq, nE, nA, nM, nD, nL, iL, iT, iE, iN, iC]
  refine pwp_up gs.length (fun i σ h' => h' = h ∧ σ 0 = .int .i64 c ∧ σ 5 = .list true 3 gs.length (gs.flatMap i3) ∧ σ 6 = .int .i64 i ∧ gs.find? (markQ c) = (gs.drop i).find? (markQ c)) ?_ ?_
  · exact ⟨rfl, rfl, rfl, rfl, rfl⟩
  · rintro i σ h' K' hi ⟨rfl, s0, sL, sI, hp⟩ next
    try simp only [sL, sI, cdK_dec, pm, pmW, pmB, ft, ↓reduceIte, reduceCtorEq, nE, nA, nM, nD, nL, iL, iT, iE, iN, iC]
    refine ⟨fun hlt => ?_, fun hge => ?_⟩
    · have x0 := flat_get i3 3 i3_len gs hlt (j := 0) (by omega)
      have x1 := flat_get i3 3 i3_len gs hlt (j := 1) (by omega)
      have x2 := flat_get i3 3 i3_len gs hlt (j := 2) (by omega)
      rw [Nat.add_zero] at x0
      have hw : IntKind.i64.wrap ((i : Int) + 1) = (i : Int) + 1 := wrap_in (by omega) (by omega)
      rw [drop_getD gs hlt] at hp
      generalize gs.getD i default = x at *
      simp only [i3, List.getElem?_cons_zero, List.getElem?_cons_succ] at x0 x1 x2
      have no : (markQ c) x = false → ∀ σ' : Sl, σ' 0 = σ 0 → σ' 5 = σ 5 → σ' 6 = .int .i64 (i + 1 : Nat) → K' σ' h' := fun e σ' q0 qL qI => by
        rw [List.find?_cons_of_neg (by rw [e]; simp)] at hp
        exact next hlt _ _ ⟨rfl, q0.trans s0, qL.trans sL, qI, hp⟩
      have yes : (markQ c) x = true → gs.find? (markQ c) = some x := fun e => by rw [hp, List.find?_cons_of_pos e]
      by_cases h1 : x.2.1 = c
      · have hd := decide_eq_true h1
        rw [yes (by simp [markQ, h1])] at k
        try simp only [x0, x1, x2, hlt, s0, sL, sI, hd, pm, pmW, pmB, ft, ↓reduceIte, reduceCtorEq, nE, nA, nM, nD, nL, iL, iT, iE, iN, iC]
        exact finK_le (Heap.le_refl _) (by dsimp only [t3b] at k; simpa [h1] using k)
      · have hn := decide_eq_false h1
        by_cases hc : c = 0
        · have hz := decide_eq_true hc
          try simp only [x0, x1, x2, hlt, s0, sL, sI, hn, hz, hw, pm, pmW, pmB, ft, ↓reduceIte, reduceCtorEq, nE, nA, nM, nD, nL, iL, iT, iE, iN, iC]
          exact no (by simp [markQ, h1, hc]; intro e; exact h1 (e.trans hc.symm)) _ (by simp [put]) (by simp [put]) (by simp [put])
        · have hz := decide_eq_false hc
          by_cases h2 : x.2.2 = c
          · have hd := decide_eq_true h2
            rw [yes (by simp [markQ, h2, hc])] at k
            try simp only [x0, x1, x2, hlt, s0, sL, sI, hn, hz, hd, pm, pmW, pmB, ft, ↓reduceIte, reduceCtorEq, nE, nA, nM, nD, nL, iL, iT, iE, iN, iC]
            exact finK_le (Heap.le_refl _) (by dsimp only [t3b] at k; simpa [h1] using k)
          · have hd := decide_eq_false h2
            try simp only [x0, x1, x2, hlt, s0, sL, sI, hn, hz, hd, hw, pm, pmW, pmB, ft, ↓reduceIte, reduceCtorEq, nE, nA, nM, nD, nL, iL, iT, iE, iN, iC]
            exact no (by simp [markQ, h1, h2]) _ (by simp [put]) (by simp [put]) (by simp [put])
    · rw [List.drop_eq_nil_of_le (by omega)] at hp
      rw [hp] at k
      try simp only [sI, pm, pmW, pmB, ft, ↓reduceIte, reduceCtorEq, nE, nA, nM, nD, nL, iL, iT, iE, iN, iC]
      exact finK_le (Heap.le_refl _) k
theorem Unpile (c : Int) (h : Heap) {K : PV → Heap → Prop} (k : K (t2 (unpP pils c)) h) : CanP Tryz.prog 107 [.int .i64 c] h K := by
  refine e107 rfl ?_
  try simp only [c107, r107_0, r107_1, r107_2, r107_3, r107_4, r107_5, r107_6, r107_7, pm, pmW, pmB, ft, ↓reduceIte, reduceCtorEq, nE, nA, nM, nD, nL, iL, iT, iE, iN, iC]
  refine Piles _ ?_
  have hlen : pils.length ≤ 100 := by decide
  unfold unpP at k
  generalize pils = gs at *
  try simp only [pm, pmW, pmB, ft, ↓reduceIte, reduceCtorEq, nE, nA, nM, nD, nL, iL, iT, iE, iN, iC]
  refine pwp_up gs.length (fun i σ h' => h' = h ∧ σ 0 = .int .i64 c ∧ σ 6 = .list true 2 gs.length (gs.flatMap i2) ∧ σ 7 = .int .i64 gs.length ∧ σ 8 = .int .i64 i ∧ gs.find? (sq2 c) = (gs.drop i).find? (sq2 c)) ?_ ?_
  · exact ⟨rfl, rfl, rfl, rfl, rfl, rfl⟩
  · rintro i σ h' K' hi ⟨rfl, s0, sL, sN, sI, hp⟩ next
    try simp only [sL, sN, sI, cdK_dec, pm, pmW, pmB, ft, ↓reduceIte, reduceCtorEq, nE, nA, nM, nD, nL, iL, iT, iE, iN, iC]
    refine ⟨fun hlt => ?_, fun hge => ?_⟩
    · have hx := flat_at i2 2 i2_len gs hlt
      have hx2 : i * 2 + 2 ≤ (gs.flatMap i2).length := by rw [flat_length i2 2 i2_len]; omega
      have hw : IntKind.i64.wrap ((i : Int) + 1) = (i : Int) + 1 := wrap_in (by omega) (by omega)
      rw [drop_getD gs hlt] at hp
      generalize gs.getD i default = x at *
      have no : (sq2 c) x = false → ∀ σ' : Sl, σ' 0 = σ 0 → σ' 6 = σ 6 → σ' 7 = σ 7 → σ' 8 = .int .i64 (i + 1 : Nat) → K' σ' h' := fun e σ' q0 qL qN qI => by
        rw [List.find?_cons_of_neg (by rw [e]; simp)] at hp
        exact next hlt _ _ ⟨rfl, q0.trans s0, qL.trans sL, qN.trans sN, qI, hp⟩
      have yes : (sq2 c) x = true → gs.find? (sq2 c) = some x := fun e => by rw [hp, List.find?_cons_of_pos e]
      try simp only [hx, hx2, hlt, sL, sI, i2, pm, pmW, pmB, ft, ↓reduceIte, reduceCtorEq, nE, nA, nM, nD, nL, iL, iT, iE, iN, iC]
      intro b hb
      try simp only [Heap.kill_none hb, s0, pm, pmW, pmB, ft, ↓reduceIte, reduceCtorEq, nE, nA, nM, nD, nL, iL, iT, iE, iN, iC]
      by_cases h1 : x.2 = c
      · have hd := decide_eq_true h1
        rw [yes (by simp [fq3, fq2, sq2, h1])] at k
        try simp only [s0, hd, pm, pmW, pmB, ft, ↓reduceIte, reduceCtorEq, nE, nA, nM, nD, nL, iL, iT, iE, iN, iC]
        exact finK_le (Heap.le_refl _) k
      · have hn := decide_eq_false h1
        try simp only [s0, hn, sI, hw, pm, pmW, pmB, ft, ↓reduceIte, reduceCtorEq, nE, nA, nM, nD, nL, iL, iT, iE, iN, iC]
        exact no (by simp [fq3, fq2, sq2, h1]) _ (by simp [put]) (by simp [put]) (by simp [put]) (by simp [put])
    · rw [List.drop_eq_nil_of_le (by omega)] at hp
      rw [hp] at k
      try simp only [sI, pm, pmW, pmB, ft, ↓reduceIte, reduceCtorEq, nE, nA, nM, nD, nL, iL, iT, iE, iN, iC]
      exact finK_le (Heap.le_refl _) k
theorem UnpileR (c : Int) (h : Heap) {K : PV → Heap → Prop} (k : K (t2 (unpP pils c)) h) : CanP Tryz.prog 43 [.int .i64 c] h K := by
  refine e43 rfl ?_
  try simp only [c43, r43_0, r43_1, r43_2, r43_3, r43_4, r43_5, r43_6, r43_7, pm, pmW, pmB, ft, ↓reduceIte, reduceCtorEq, nE, nA, nM, nD, nL, iL, iT, iE, iN, iC]
  refine Piles _ ?_
  have hlen : pils.length ≤ 100 := by decide
  unfold unpP at k
  generalize pils = gs at *
  try simp only [pm, pmW, pmB, ft, ↓reduceIte, reduceCtorEq, nE, nA, nM, nD, nL, iL, iT, iE, iN, iC]
  refine pwp_up gs.length (fun i σ h' => h' = h ∧ σ 0 = .int .i64 c ∧ σ 4 = .list true 2 gs.length (gs.flatMap i2) ∧ σ 5 = .int .i64 i ∧ gs.find? (sq2 c) = (gs.drop i).find? (sq2 c)) ?_ ?_
  · exact ⟨rfl, rfl, rfl, rfl, rfl⟩
  · rintro i σ h' K' hi ⟨rfl, s0, sL, sI, hp⟩ next
    try simp only [sL, sI, cdK_dec, pm, pmW, pmB, ft, ↓reduceIte, reduceCtorEq, nE, nA, nM, nD, nL, iL, iT, iE, iN, iC]
    refine ⟨fun hlt => ?_, fun hge => ?_⟩
    · have x0 := flat_get i2 2 i2_len gs hlt (j := 0) (by omega)
      have x1 := flat_get i2 2 i2_len gs hlt (j := 1) (by omega)
      rw [Nat.add_zero] at x0
      have hw : IntKind.i64.wrap ((i : Int) + 1) = (i : Int) + 1 := wrap_in (by omega) (by omega)
      rw [drop_getD gs hlt] at hp
      generalize gs.getD i default = x at *
      simp only [i2, List.getElem?_cons_zero, List.getElem?_cons_succ] at x0 x1
      have no : (sq2 c) x = false → ∀ σ' : Sl, σ' 0 = σ 0 → σ' 4 = σ 4 → σ' 5 = .int .i64 (i + 1 : Nat) → K' σ' h' := fun e σ' q0 qL qI => by
        rw [List.find?_cons_of_neg (by rw [e]; simp)] at hp
        exact next hlt _ _ ⟨rfl, q0.trans s0, qL.trans sL, qI, hp⟩
      have yes : (sq2 c) x = true → gs.find? (sq2 c) = some x := fun e => by rw [hp, List.find?_cons_of_pos e]
      by_cases h1 : x.2 = c
      · have hd := decide_eq_true h1
        rw [yes (by simp [fq3, fq2, sq2, h1])] at k
        try simp only [x0, x1, hlt, s0, sL, sI, hd, pm, pmW, pmB, ft, ↓reduceIte, reduceCtorEq, nE, nA, nM, nD, nL, iL, iT, iE, iN, iC]
        exact finK_le (Heap.le_refl _) k
      · have hn := decide_eq_false h1
        try simp only [x0, x1, hlt, s0, sL, sI, hn, sI, hw, pm, pmW, pmB, ft, ↓reduceIte, reduceCtorEq, nE, nA, nM, nD, nL, iL, iT, iE, iN, iC]
        exact no (by simp [fq3, fq2, sq2, h1]) _ (by simp [put]) (by simp [put]) (by simp [put])
    · rw [List.drop_eq_nil_of_le (by omega)] at hp
      rw [hp] at k
      try simp only [sI, pm, pmW, pmB, ft, ↓reduceIte, reduceCtorEq, nE, nA, nM, nD, nL, iL, iT, iE, iN, iC]
      exact finK_le (Heap.le_refl _) k
theorem kinds (c : Int) (h : Heap) {K : PV → Heap → Prop} (k : K (.agg [.bool (baseF lets c).2.2, .bool (partP ligs c).2.2, .bool (markP accs c).2.2, .bool (unpP pils c).2]) h) : CanP Tryz.prog 92 [.int .i64 c] h K := by
  refine e92 rfl ?_
  try simp only [c92, r92_0, r92_1, r92_2, r92_3, r92_4, r92_5, r92_6, pm, pmW, pmB, ft, ↓reduceIte, reduceCtorEq, nE, nA, nM, nD, nL, iL, iT, iE, iN, iC]
  intro b hb b3 hb3
  have hne : b ≠ b3 := fun e => by rw [← e, Heap.set_same] at hb3; cases hb3
  have hb3' : h.f b3 = none := by rwa [Heap.set_ne _ _ (Ne.symm hne)] at hb3
  have hs : ∀ (g : Heap) (Y : List PV), (g.set b3 Y).f b = g.f b := fun g Y => Heap.set_ne g Y hne
  refine Base _ _ ?_
  try simp only [baseP, pm, pmW, pmB, ft, ↓reduceIte, reduceCtorEq, nE, nA, nM, nD, nL, iL, iT, iE, iN, iC]
  refine Parted _ _ ?_
  try simp only [t3, pm, pmW, pmB, ft, ↓reduceIte, reduceCtorEq, nE, nA, nM, nD, nL, iL, iT, iE, iN, iC]
  refine FMark _ _ ?_
  try simp only [t3b, pm, pmW, pmB, ft, ↓reduceIte, reduceCtorEq, nE, nA, nM, nD, nL, iL, iT, iE, iN, iC]
  refine Unpile _ _ ?_
  try simp only [t2, hs, pm, pmW, pmB, ft, ↓reduceIte, reduceCtorEq, nE, nA, nM, nD, nL, iL, iT, iE, iN, iC]
  exact finK_le (Heap.le_set (Heap.le_set (Heap.le_set (Heap.le_refl _) hb) hb3') hb) k
/-- Is a code a form? -/
def presB (c : Int) : Bool := decide (c = 65139) || ((baseF lets c).2.2 || (partP ligs c).2.2 || (markP accs c).2.2 || (unpP pils c).2)
theorem Presented (c : Int) (h : Heap) {K : PV → Heap → Prop} (k : K (.bool (presB c)) h) : CanP Tryz.prog 51 [.int .i64 c] h K := by
  refine e51 rfl ?_
  try simp only [c51, r51_0, r51_1, r51_2, pm, pmW, pmB, ft, ↓reduceIte, reduceCtorEq, nE, nA, nM, nD, nL, iL, iT, iE, iN, iC]
  by_cases h1 : c = 65139
  · have hd := decide_eq_true h1
    try simp only [hd, pm, pmW, pmB, ft, ↓reduceIte, reduceCtorEq, nE, nA, nM, nD, nL, iL, iT, iE, iN, iC]
    exact finK_le (Heap.le_refl _) (by simpa [presB, h1] using k)
  · have hd := decide_eq_false h1
    try simp only [hd, pm, pmW, pmB, ft, ↓reduceIte, reduceCtorEq, nE, nA, nM, nD, nL, iL, iT, iE, iN, iC]
    refine ⟨_, kinds _ _ ⟨rfl, rfl⟩, ?_⟩
    try simp only [Option.map_some, Option.some.injEq, false_and, pm, pmW, pmB, ft, ↓reduceIte, reduceCtorEq, nE, nA, nM, nD, nL, iL, iT, iE, iN, iC]
    refine finK_le (Heap.le_refl _) ?_
    rw [presB, hd] at k
    generalize (baseF lets c).2.2 = a1 at *
    generalize (partP ligs c).2.2 = a2 at *
    generalize (markP accs c).2.2 = a3 at *
    generalize (unpP pils c).2 = a4 at *
    cases a1 <;> cases a2 <;> cases a3 <;> cases a4 <;> exact k
theorem PresentedR (c : Int) (h : Heap) {K : PV → Heap → Prop} (k : K (.bool (presB c)) h) : CanP Tryz.prog 14 [.int .i64 c] h K := by
  refine e14 rfl ?_
  try simp only [c14, r14_0, r14_1, r14_2, r14_3, r14_4, r14_5, pm, pmW, pmB, ft, ↓reduceIte, reduceCtorEq, nE, nA, nM, nD, nL, iL, iT, iE, iN, iC]
  refine BaseR _ _ ?_
  try simp only [baseP, pm, pmW, pmB, ft, ↓reduceIte, reduceCtorEq, nE, nA, nM, nD, nL, iL, iT, iE, iN, iC]
  refine PartedR _ _ ?_
  try simp only [t3, pm, pmW, pmB, ft, ↓reduceIte, reduceCtorEq, nE, nA, nM, nD, nL, iL, iT, iE, iN, iC]
  refine FMarkR _ _ ?_
  try simp only [t3b, pm, pmW, pmB, ft, ↓reduceIte, reduceCtorEq, nE, nA, nM, nD, nL, iL, iT, iE, iN, iC]
  refine UnpileR _ _ ?_
  try simp only [t2, pm, pmW, pmB, ft, ↓reduceIte, reduceCtorEq, nE, nA, nM, nD, nL, iL, iT, iE, iN, iC]
  rw [presB] at k
  have last : ∀ x : Bool, x = (decide (c = 65139) || ((baseF lets c).2.2 || (partP ligs c).2.2 || (markP accs c).2.2 || (unpP pils c).2)) → finK (.bool x) h K h := fun x e => finK_le (Heap.le_refl _) (by rw [e]; exact k)
  generalize (baseF lets c).2.2 = a1 at *
  generalize (partP ligs c).2.2 = a2 at *
  generalize (markP accs c).2.2 = a3 at *
  generalize (unpP pils c).2 = a4 at *
  cases a1
  · cases a2
    · cases a3
      · cases a4
        · try simp only [pm, pmW, pmB, ft, ↓reduceIte, reduceCtorEq, nE, nA, nM, nD, nL, iL, iT, iE, iN, iC]
          exact last _ (by simp)
        · try simp only [pm, pmW, pmB, ft, ↓reduceIte, reduceCtorEq, nE, nA, nM, nD, nL, iL, iT, iE, iN, iC]
          exact last _ (by simp)
      · try simp only [pm, pmW, pmB, ft, ↓reduceIte, reduceCtorEq, nE, nA, nM, nD, nL, iL, iT, iE, iN, iC]
        exact last _ (by simp)
    · try simp only [pm, pmW, pmB, ft, ↓reduceIte, reduceCtorEq, nE, nA, nM, nD, nL, iL, iT, iE, iN, iC]
      exact last _ (by simp)
  · try simp only [pm, pmW, pmB, ft, ↓reduceIte, reduceCtorEq, nE, nA, nM, nD, nL, iL, iT, iE, iN, iC]
    exact last _ (by simp)
def kinds_FormsGives : List AKind := [.one (some .i64), .one (some .i64)]
def kinds_FormsMarks : List AKind := [.one (some .i64), .one none]
def kinds_FormsTakes : List AKind := [.one (some .i64)]
end Go.Proofs.YtcgaphmndnmfdaaGreat
