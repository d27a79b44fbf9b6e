/-
  Letters and their forms: the package forms and the document's answer.
  Conditions: none but those that each sentence tells.
-/
import Derived.Test.YtcgaphmndnmfdaaForm0
import Derived.Test.YtcgaphmndnmfdaaLig1
namespace Go.Proofs.Ytcgaphmndnmfdaa
open Go.Pm
set_option maxRecDepth 100000
set_option linter.unusedSimpArgs false
set_option linter.unusedVariables false

/-- Is it a form, and this code? -/
def isF (c f : Int) : Bool := decide (f ≠ 0) && decide (f = c)
/-- Whose form a code is, which one, and whether it is one. -/
def baseF (gs : List L5) (c : Int) : Int × Int × Bool := match gs.find? (fun p => (fl p).any (isF c)) with
  | none => (0, 0, false)
  | some p => (p.1, findI (isF c) (fl p) 0 + 1, true)
def baseP (gs : List L5) (c : Int) : PV := .tup [.int .i64 (baseF gs c).1, .int .i64 (baseF gs c).2.1, .bool (baseF gs c).2.2]
theorem of_ (c : Int) (h : Heap) {K : PV → Heap → Prop} (k : K (.tup [.agg [.int .i64 (baseF lets c).1, .int .i64 (baseF lets c).2.1], .bool (baseF lets c).2.2]) h) : CanP Try.prog 85 [.int .i64 c] h K := by
  refine e85 rfl ?_
  try simp only [c85, r85_0, r85_1, r85_2, r85_3, r85_4, r85_5, r85_6, r85_7, r85_8, r85_9, r85_10, r85_11, pmZ, Int.cast_ofNat_Int, beq_self_eq_true, Heap.kill_kset, pmC, pmE, pmS, pmV, pmK, pmQ, pmL, pmX, pmF, pmO, pmA, pmR, pmW, pmB, Option.isSome_some, ft, olds_ints, olds_bools, ↓reduceIte, Nat.reduceEqDiff, reduceCtorEq, Nat.reduceAdd, Nat.reduceMul, Nat.reduceLeDiff, Nat.reduceLT, Int.reduceLE, Int.reduceLT, Int.reduceEq, Int.reduceToNat, ne_eq]
  intro b2 hb2
  refine Letters _ ?_
  have hlen : lets.length ≤ 100 := by decide
  generalize lets = gs at *
  obtain ⟨Q, hQ⟩ : ∃ Q : L5 → Bool, Q = fun p => (fl p).any (isF c) := ⟨_, rfl⟩
  have hQ2 : ∀ p, Q p = (fl p).any (isF c) := fun p => by rw [hQ]
  have hbf : baseF gs c = match gs.find? Q with | none => (0, 0, false) | some p => (p.1, findI (isF c) (fl p) 0 + 1, true) := by rw [hQ]; rfl
  clear hQ
  try simp only [pmZ, Int.cast_ofNat_Int, beq_self_eq_true, Heap.kill_kset, pmC, pmE, pmS, pmV, pmK, pmQ, pmL, pmX, pmF, pmO, pmA, pmR, pmW, pmB, Option.isSome_some, ft, olds_ints, olds_bools, ↓reduceIte, Nat.reduceEqDiff, reduceCtorEq, Nat.reduceAdd, Nat.reduceMul, Nat.reduceLeDiff, Nat.reduceLT, Int.reduceLE, Int.reduceLT, Int.reduceEq, Int.reduceToNat, ne_eq]
  refine pwp_up gs.length (fun i σ h' => Own h h' b2 [.int .i64 0, .int .i64 0] ∧ h.le h' ∧ σ 0 = .int .i64 c ∧ σ 2 = .ptr b2 0 ∧ σ 8 = .list true 5 gs.length (gs.flatMap l5) ∧ σ 9 = .int .i64 gs.length ∧ σ 10 = .int .i64 i ∧
    gs.find? Q = (gs.drop i).find? Q) ?_ ?_
  · exact ⟨⟨hb2, Heap.set_same _ _ _⟩, Heap.le_set (Heap.le_refl _) hb2, rfl, rfl, rfl, rfl, rfl, rfl⟩
  · rintro i σ h' K' hi ⟨o, lh, s0, s2, s8, s9, s10, hp⟩ next
    have g2 := o.2
    try simp only [s8, s9, s10, cdK_dec, pmZ, Int.cast_ofNat_Int, beq_self_eq_true, Heap.kill_kset, pmC, pmE, pmS, pmV, pmK, pmQ, pmL, pmX, pmF, pmO, pmA, pmR, pmW, pmB, Option.isSome_some, ft, olds_ints, olds_bools, ↓reduceIte, Nat.reduceEqDiff, reduceCtorEq, Nat.reduceAdd, Nat.reduceMul, Nat.reduceLeDiff, Nat.reduceLT, Int.reduceLE, Int.reduceLT, Int.reduceEq, Int.reduceToNat, ne_eq]
    refine ⟨fun hlt => ?_, fun hge => ?_⟩
    · have hx := flat_at l5 5 l5_len gs hlt
      have hx2 : i * 5 + 5 ≤ (gs.flatMap l5).length := by rw [flat_length l5 5 l5_len]; omega
      rw [drop_getD gs hlt] at hp
      generalize gs.getD i default = p at *
      try simp only [hx, hx2, hlt, s8, s10, l5_len, old_l51, wr_l5, pmZ, Int.cast_ofNat_Int, beq_self_eq_true, Heap.kill_kset, pmC, pmE, pmS, pmV, pmK, pmQ, pmL, pmX, pmF, pmO, pmA, pmR, pmW, pmB, Option.isSome_some, ft, olds_ints, olds_bools, ↓reduceIte, Nat.reduceEqDiff, reduceCtorEq, Nat.reduceAdd, Nat.reduceMul, Nat.reduceLeDiff, Nat.reduceLT, Int.reduceLE, Int.reduceLT, Int.reduceEq, Int.reduceToNat, ne_eq]
      intro b hb
      try simp only [Heap.kill_none hb, l5_len, old_l51, wr_l5, fl_of, pmZ, Int.cast_ofNat_Int, beq_self_eq_true, Heap.kill_kset, pmC, pmE, pmS, pmV, pmK, pmQ, pmL, pmX, pmF, pmO, pmA, pmR, pmW, pmB, Option.isSome_some, ft, olds_ints, olds_bools, ↓reduceIte, Nat.reduceEqDiff, reduceCtorEq, Nat.reduceAdd, Nat.reduceMul, Nat.reduceLeDiff, Nat.reduceLT, Int.reduceLE, Int.reduceLT, Int.reduceEq, Int.reduceToNat, ne_eq]
      refine pwp_up 4 (fun j σ' h'' => h'' = h' ∧ σ' 0 = .int .i64 c ∧ σ' 2 = .ptr b2 0 ∧ (∃ fr, σ' 5 = .fptr fr (l5 p) 0) ∧ σ' 8 = .list true 5 gs.length (gs.flatMap l5) ∧ σ' 9 = .int .i64 gs.length ∧ σ' 10 = .int .i64 i ∧ σ' 15 = .agg ((fl p).map (.int .i64)) ∧ σ' 16 = .int .i64 j ∧
        findI (isF c) (fl p) 0 = findI (isF c) ((fl p).drop j) j) ?_ ?_
      · exact ⟨rfl, by simp [put, s0], by simp [put, s2], ⟨_, rfl⟩, by simp [put, s8], by simp [put, s9], by simp [put, s10], rfl, rfl, rfl⟩
      · rintro j σ' h'' K2 hj ⟨rfl, t0, t2, ⟨fr, t5⟩, t8, t9, t10, t15, t16, hq⟩ next2
        try simp only [t16, cdK_dec, pmZ, Int.cast_ofNat_Int, beq_self_eq_true, Heap.kill_kset, pmC, pmE, pmS, pmV, pmK, pmQ, pmL, pmX, pmF, pmO, pmA, pmR, pmW, pmB, Option.isSome_some, ft, olds_ints, olds_bools, ↓reduceIte, Nat.reduceEqDiff, reduceCtorEq, Nat.reduceAdd, Nat.reduceMul, Nat.reduceLeDiff, Nat.reduceLT, Int.reduceLE, Int.reduceLT, Int.reduceEq, Int.reduceToNat, ne_eq]
        refine ⟨fun hjl => ?_, fun hjg => ?_⟩
        · have hj4 : j < 4 := by omega
          have hj5 : (j : Int) < 4 := by omega
          have hjl' : j < (fl p).length := by rw [fl_len]; omega
          have hy := getm (.int .i64) (fl p) hjl'
          rw [drop_getD (fl p) hjl'] at hq
          have hmem : (fl p).getD j default ∈ fl p := by simp [List.getD, hjl']
          generalize (fl p).getD j default = f at *
          have yes : isF c f = true → baseF gs c = (p.1, (j : Int) + 1, true) := fun e => by
            rw [List.find?_cons_of_pos (by rw [hQ2]; exact List.any_eq_true.2 ⟨f, hmem, e⟩)] at hp
            rw [findI, if_pos e] at hq
            rw [hbf, hp]; simp only [hq]
          have no : isF c f = false → findI (isF c) (fl p) 0 = findI (isF c) ((fl p).drop (j + 1)) (j + 1 : Nat) := fun e => by
            rw [hq, findI, e, if_neg (by simp)]; rfl
          have hw : IntKind.i64.wrap ((j : Int) + 1) = (j : Int) + 1 := wrap_in (by omega) (by omega)
          try simp only [t0, t15, t16, hj4, hj5, hy, Nat.mul_one, hw, pmZ, Int.cast_ofNat_Int, beq_self_eq_true, Heap.kill_kset, pmC, pmE, pmS, pmV, pmK, pmQ, pmL, pmX, pmF, pmO, pmA, pmR, pmW, pmB, Option.isSome_some, ft, olds_ints, olds_bools, ↓reduceIte, Nat.reduceEqDiff, reduceCtorEq, Nat.reduceAdd, Nat.reduceMul, Nat.reduceLeDiff, Nat.reduceLT, Int.reduceLE, Int.reduceLT, Int.reduceEq, Int.reduceToNat, ne_eq]
          by_cases h1 : f = 0
          · have e : isF c f = false := by simp [isF, h1]
            try simp only [h1, t16, hw, pmZ, Int.cast_ofNat_Int, beq_self_eq_true, Heap.kill_kset, pmC, pmE, pmS, pmV, pmK, pmQ, pmL, pmX, pmF, pmO, pmA, pmR, pmW, pmB, Option.isSome_some, ft, olds_ints, olds_bools, ↓reduceIte, Nat.reduceEqDiff, reduceCtorEq, Nat.reduceAdd, Nat.reduceMul, Nat.reduceLeDiff, Nat.reduceLT, Int.reduceLE, Int.reduceLT, Int.reduceEq, Int.reduceToNat, ne_eq]
            exact next2 hj4 _ _ ⟨rfl, by simp [put, t0], by simp [put, t2], ⟨fr, by simp [put, t5]⟩, by simp [put, t8], by simp [put, t9], by simp [put, t10], by simp [put, t15], by simp [put], no e⟩
          · by_cases h2 : f = c
            · have e : isF c f = true := by unfold isF; rw [decide_eq_true h1, decide_eq_true h2]; rfl
              have hd := decide_eq_true h2
              rw [yes e] at k
              try simp only [h1, hd, t0, t2, t5, t16, hw, l5, g2, pmZ, Int.cast_ofNat_Int, beq_self_eq_true, Heap.kill_kset, pmC, pmE, pmS, pmV, pmK, pmQ, pmL, pmX, pmF, pmO, pmA, pmR, pmW, pmB, Option.isSome_some, ft, olds_ints, olds_bools, ↓reduceIte, Nat.reduceEqDiff, reduceCtorEq, Nat.reduceAdd, Nat.reduceMul, Nat.reduceLeDiff, Nat.reduceLT, Int.reduceLE, Int.reduceLT, Int.reduceEq, Int.reduceToNat, ne_eq]
              exact finK_le (o.le lh) k
            · have e : isF c f = false := by simp [isF, h2]
              try simp only [h1, h2, t0, t16, hw, pmZ, Int.cast_ofNat_Int, beq_self_eq_true, Heap.kill_kset, pmC, pmE, pmS, pmV, pmK, pmQ, pmL, pmX, pmF, pmO, pmA, pmR, pmW, pmB, Option.isSome_some, ft, olds_ints, olds_bools, ↓reduceIte, Nat.reduceEqDiff, reduceCtorEq, Nat.reduceAdd, Nat.reduceMul, Nat.reduceLeDiff, Nat.reduceLT, Int.reduceLE, Int.reduceLT, Int.reduceEq, Int.reduceToNat, ne_eq]
              exact next2 hj4 _ _ ⟨rfl, by simp [put, t0], by simp [put, t2], ⟨fr, by simp [put, t5]⟩, by simp [put, t8], by simp [put, t9], by simp [put, t10], by simp [put, t15], by simp [put], no e⟩
        · have hj4 : j = 4 := by omega
          subst hj4
          have hno : ¬ (fl p).any (isF c) = true := by
            rw [List.drop_eq_nil_of_le (by rw [fl_len]; omega)] at hq
            rcases findI_cases (isF c) (fl p) 0 with ⟨_, a⟩ | ⟨q, _, e, _⟩
            · rw [List.any_eq_true]; rintro ⟨x, hx, e⟩; rw [a x hx] at e; cases e
            · rw [e] at hq; simp only [findI] at hq; omega
          rw [List.find?_cons_of_neg (by rw [hQ2]; exact hno)] at hp
          try simp only [t10, pmZ, Int.cast_ofNat_Int, beq_self_eq_true, Heap.kill_kset, pmC, pmE, pmS, pmV, pmK, pmQ, pmL, pmX, pmF, pmO, pmA, pmR, pmW, pmB, Option.isSome_some, ft, olds_ints, olds_bools, ↓reduceIte, Nat.reduceEqDiff, reduceCtorEq, Nat.reduceAdd, Nat.reduceMul, Nat.reduceLeDiff, Nat.reduceLT, Int.reduceLE, Int.reduceLT, Int.reduceEq, Int.reduceToNat, ne_eq]
          rw [wrap_in (by omega) (by omega)]
          exact next hlt _ _ ⟨o, lh, by simp [put, t0], by simp [put, t2], by simp [put, t8], by simp [put, t9], by simp [put], hp⟩
    · rw [List.drop_eq_nil_of_le (by omega)] at hp
      rw [hbf, hp] at k
      try simp only [s2, g2, pmZ, Int.cast_ofNat_Int, beq_self_eq_true, Heap.kill_kset, pmC, pmE, pmS, pmV, pmK, pmQ, pmL, pmX, pmF, pmO, pmA, pmR, pmW, pmB, Option.isSome_some, ft, olds_ints, olds_bools, ↓reduceIte, Nat.reduceEqDiff, reduceCtorEq, Nat.reduceAdd, Nat.reduceMul, Nat.reduceLeDiff, Nat.reduceLT, Int.reduceLE, Int.reduceLT, Int.reduceEq, Int.reduceToNat, ne_eq]
      exact finK_le (o.le lh) k
theorem Base (c : Int) (h : Heap) {K : PV → Heap → Prop} (k : K (baseP lets c) h) : CanP Try.prog 63 [.int .i64 c] h K := by
  refine e63 rfl ?_
  try simp only [c63, r63_0, r63_1, r63_2, pmZ, Int.cast_ofNat_Int, beq_self_eq_true, Heap.kill_kset, pmC, pmE, pmS, pmV, pmK, pmQ, pmL, pmX, pmF, pmO, pmA, pmR, pmW, pmB, Option.isSome_some, ft, olds_ints, olds_bools, ↓reduceIte, Nat.reduceEqDiff, reduceCtorEq, Nat.reduceAdd, Nat.reduceMul, Nat.reduceLeDiff, Nat.reduceLT, Int.reduceLE, Int.reduceLT, Int.reduceEq, Int.reduceToNat, ne_eq]
  refine of_ _ _ ?_
  try simp only [pmZ, Int.cast_ofNat_Int, beq_self_eq_true, Heap.kill_kset, pmC, pmE, pmS, pmV, pmK, pmQ, pmL, pmX, pmF, pmO, pmA, pmR, pmW, pmB, Option.isSome_some, ft, olds_ints, olds_bools, ↓reduceIte, Nat.reduceEqDiff, reduceCtorEq, Nat.reduceAdd, Nat.reduceMul, Nat.reduceLeDiff, Nat.reduceLT, Int.reduceLE, Int.reduceLT, Int.reduceEq, Int.reduceToNat, ne_eq]
  intro b hb
  try simp only [Heap.kill_none hb, pmZ, Int.cast_ofNat_Int, beq_self_eq_true, Heap.kill_kset, pmC, pmE, pmS, pmV, pmK, pmQ, pmL, pmX, pmF, pmO, pmA, pmR, pmW, pmB, Option.isSome_some, ft, olds_ints, olds_bools, ↓reduceIte, Nat.reduceEqDiff, reduceCtorEq, Nat.reduceAdd, Nat.reduceMul, Nat.reduceLeDiff, Nat.reduceLT, Int.reduceLE, Int.reduceLT, Int.reduceEq, Int.reduceToNat, ne_eq]
  exact finK_le (Heap.le_refl _) k
end Go.Proofs.Ytcgaphmndnmfdaa

/-
  A letter's form: the package forms and the document's answer.
  Conditions: none but those that each sentence tells.
-/
namespace Go.Proofs.Ytcgaphmndnmfdaa
open Go.Pm
set_option maxRecDepth 100000
set_option linter.unusedSimpArgs false
set_option linter.unusedVariables false

theorem rises_all : (((List.range 75).all fun i => decide ((lets.getD i default).1 < (lets.getD (i + 1) default).1)) && ((List.range 76).all fun i => decide (0 < (lets.getD i default).1 ∧ (lets.getD i default).1 < 65536))) = true := by kernel_rfl
theorem lets_len : lets.length = 76 := rfl
theorem rises {i j : Nat} (hij : i < j) (hj : j < lets.length) : (lets.getD i default).1 < (lets.getD j default).1 := by
  have h := List.all_eq_true.1 (Bool.and_eq_true_iff.1 rises_all).1
  rw [lets_len] at hj
  induction j with
  | zero => omega
  | succ j ih =>
    have := h j (by simp; omega)
    simp only [decide_eq_true_eq] at this
    rcases Nat.lt_or_ge i j with q | q
    · have := ih q (by omega); omega
    · have : i = j := by omega
      subst this; assumption
theorem keys {i : Nat} (h : i < lets.length) : 0 < (lets.getD i default).1 ∧ (lets.getD i default).1 < 65536 := by
  rw [lets_len] at h
  have := List.all_eq_true.1 (Bool.and_eq_true_iff.1 rises_all).2 i (by simpa using h)
  simpa using this
def key (gs : List L5) (i : Nat) : Int := (gs.getD i default).1
/-- A letter's form; whether there is one. -/
def formQ (b f : Int) (p : L5) : Bool := decide (p.1 = b) && (decide (1 ≤ f ∧ f ≤ 4) && decide ((fl p).getD (f - 1).toNat default ≠ 0))
def formF (gs : List L5) (b f : Int) : Int × Bool := match gs.find? (formQ b f) with
  | none => (0, false)
  | some p => ((fl p).getD (f - 1).toNat default, true)
def formP (gs : List L5) (b f : Int) : PV := .tup [.int .i64 (formF gs b f).1, .bool (formF gs b f).2]
theorem getD_mem {α : Type} [Inhabited α] {l : List α} {x : α} (h : x ∈ l) : ∃ i, i < l.length ∧ l.getD i default = x := by
  obtain ⟨i, h1, h2⟩ := List.mem_iff_getElem.1 h
  exact ⟨i, h1, by simp [List.getD, h1, h2]⟩
theorem find_key {b f : Int} {p : Nat} (hp : p < lets.length) (hk : key lets p = b) : lets.find? (formQ b f) = if formQ b f (lets.getD p default) then some (lets.getD p default) else none := by
  cases e : lets.find? (formQ b f) with
  | none =>
    have := List.find?_eq_none.1 e (lets.getD p default) (by simp [List.getD, hp])
    rw [if_neg this]
  | some x =>
    have h1 := List.find?_some e
    obtain ⟨i, h2, h3⟩ := getD_mem (List.mem_of_find?_eq_some e)
    have hx : x.1 = b := by
      unfold formQ at h1
      simp only [Bool.and_eq_true, decide_eq_true_eq] at h1
      exact h1.1
    unfold key at hk
    have : i = p := by
      rcases Nat.lt_trichotomy i p with q | q | q
      · have := rises q hp; rw [h3] at this; omega
      · exact q
      · have := rises q h2; rw [h3] at this; omega
    subst this
    rw [h3, if_pos h1]
theorem find_no {b f : Int} (h : ∀ i, i < lets.length → key lets i ≠ b) : lets.find? (formQ b f) = none := by
  rw [List.find?_eq_none]
  intro x hx
  obtain ⟨i, h2, h3⟩ := getD_mem hx
  have := h i h2
  unfold key at this
  rw [h3] at this
  simp [formQ, this]
end Go.Proofs.Ytcgaphmndnmfdaa

/-
  Lam with alef, marks and piles: whose form a code is; what is a form at all: the package forms and the document's answer.
  Conditions: none but those that each sentence tells.
-/
namespace Go.Proofs.Ytcgaphmndnmfdaa
open Go.Pm
set_option maxRecDepth 100000
set_option linter.unusedSimpArgs false
set_option linter.unusedVariables false

def accs : List I3 := [(1611, 65136, 65137), (1612, 65138, 0), (1613, 65140, 0), (1614, 65142, 65143), (1615, 65144, 65145), (1616, 65146, 65147), (1617, 65148, 65149), (1618, 65150, 65151)]
theorem Accents (h : Heap) {K : PV → Heap → Prop} (k : K (.list true 3 accs.length (accs.flatMap i3)) h) : CanP Try.prog 87 [] h K := by
  refine e87 rfl ?_
  try simp only [c87, r87_0, r87_1, pmZ, Int.cast_ofNat_Int, beq_self_eq_true, Heap.kill_kset, pmC, pmE, pmS, pmV, pmK, pmQ, pmL, pmX, pmF, pmO, pmA, pmR, pmW, pmB, Option.isSome_some, ft, olds_ints, olds_bools, ↓reduceIte, Nat.reduceEqDiff, reduceCtorEq, Nat.reduceAdd, Nat.reduceMul, Nat.reduceLeDiff, Nat.reduceLT, Int.reduceLE, Int.reduceLT, Int.reduceEq, Int.reduceToNat, ne_eq]
  exact finK_le (Heap.le_refl _) k
abbrev I2 := Int × Int
def i2 (p : I2) : List PV := [.int .i64 p.1, .int .i64 p.2]
theorem i2_len (p : I2) : (i2 p).length = 2 := rfl
def pils : List I2 := [(1612, 64606), (1613, 64607), (1614, 64608), (1615, 64609), (1616, 64610), (1648, 64611)]
theorem Piles (h : Heap) {K : PV → Heap → Prop} (k : K (.list true 2 pils.length (pils.flatMap i2)) h) : CanP Try.prog 88 [] h K := by
  refine e88 rfl ?_
  try simp only [c88, r88_0, r88_1, pmZ, Int.cast_ofNat_Int, beq_self_eq_true, Heap.kill_kset, pmC, pmE, pmS, pmV, pmK, pmQ, pmL, pmX, pmF, pmO, pmA, pmR, pmW, pmB, Option.isSome_some, ft, olds_ints, olds_bools, ↓reduceIte, Nat.reduceEqDiff, reduceCtorEq, Nat.reduceAdd, Nat.reduceMul, Nat.reduceLeDiff, Nat.reduceLT, Int.reduceLE, Int.reduceLT, Int.reduceEq, Int.reduceToNat, ne_eq]
  exact finK_le (Heap.le_refl _) k
def partQ (c : Int) (x : I3) : Bool := decide (x.2.1 = c) || decide (x.2.2 = c)
/-- Which alef a lam with alef has, and its form. -/
def partP (gs : List I3) (c : Int) : Int × Int × Bool := match gs.find? (partQ c) with | none => (0, 0, false) | some x => (x.1, if x.2.1 = c then 1 else 2, true)
def markQ (c : Int) (x : I3) : Bool := decide (x.2.1 = c) || (decide (c ≠ 0) && decide (x.2.2 = c))
/-- Whose form a code is, and whether it is the medial one. -/
def markP (gs : List I3) (c : Int) : Int × Bool × Bool := match gs.find? (markQ c) with | none => (0, false, false) | some x => (x.1, !decide (x.2.1 = c), true)
def fq3 (c : Int) (x : I3) : Bool := decide (x.1 = c)
def fq2 (c : Int) (x : I2) : Bool := decide (x.1 = c)
def sq2 (c : Int) (x : I2) : Bool := decide (x.2 = c)
def accP (gs : List I3) (c : Int) (med : Bool) : Int × Bool := match gs.find? (fq3 c) with | none => (0, false) | some x => if med then (x.2.2, decide (x.2.2 ≠ 0)) else (x.2.1, true)
def pileP (gs : List I2) (c : Int) : Int × Bool := match gs.find? (fq2 c) with | none => (0, false) | some x => (x.2, true)
def unpP (gs : List I2) (c : Int) : Int × Bool := match gs.find? (sq2 c) with | none => (0, false) | some x => (x.1, true)
def t3 (p : Int × Int × Bool) : PV := .tup [.int .i64 p.1, .int .i64 p.2.1, .bool p.2.2]
def t3b (p : Int × Bool × Bool) : PV := .tup [.int .i64 p.1, .bool p.2.1, .bool p.2.2]
def t2 (p : Int × Bool) : PV := .tup [.int .i64 p.1, .bool p.2]
theorem Parted (c : Int) (h : Heap) {K : PV → Heap → Prop} (k : K (t3 (partP ligs c)) h) : CanP Try.prog 64 [.int .i64 c] h K := by
  refine e64 rfl ?_
  try simp only [c64, r64_0, r64_1, r64_2, r64_3, r64_4, r64_5, r64_6, r64_7, r64_8, r64_9, r64_10, pmZ, Int.cast_ofNat_Int, beq_self_eq_true, Heap.kill_kset, pmC, pmE, pmS, pmV, pmK, pmQ, pmL, pmX, pmF, pmO, pmA, pmR, pmW, pmB, Option.isSome_some, ft, olds_ints, olds_bools, ↓reduceIte, Nat.reduceEqDiff, reduceCtorEq, Nat.reduceAdd, Nat.reduceMul, Nat.reduceLeDiff, Nat.reduceLT, Int.reduceLE, Int.reduceLT, Int.reduceEq, Int.reduceToNat, ne_eq]
  refine Ligatures _ ?_
  have hlen : ligs.length ≤ 100 := by decide
  unfold partP at k
  generalize ligs = gs at *
  try simp only [pmZ, Int.cast_ofNat_Int, beq_self_eq_true, Heap.kill_kset, pmC, pmE, pmS, pmV, pmK, pmQ, pmL, pmX, pmF, pmO, pmA, pmR, pmW, pmB, Option.isSome_some, ft, olds_ints, olds_bools, ↓reduceIte, Nat.reduceEqDiff, reduceCtorEq, Nat.reduceAdd, Nat.reduceMul, Nat.reduceLeDiff, Nat.reduceLT, Int.reduceLE, Int.reduceLT, Int.reduceEq, Int.reduceToNat, ne_eq]
  refine pwp_up gs.length (fun i σ h' => h' = h ∧ σ 0 = .int .i64 c ∧ σ 7 = .list true 3 gs.length (gs.flatMap i3) ∧ σ 8 = .int .i64 gs.length ∧ σ 9 = .int .i64 i ∧ gs.find? (partQ c) = (gs.drop i).find? (partQ c)) ?_ ?_
  · exact ⟨rfl, rfl, rfl, rfl, rfl, rfl⟩
  · rintro i σ h' K' hi ⟨rfl, s0, sL, sN, sI, hp⟩ next
    try simp only [sL, sN, sI, cdK_dec, pmZ, Int.cast_ofNat_Int, beq_self_eq_true, Heap.kill_kset, pmC, pmE, pmS, pmV, pmK, pmQ, pmL, pmX, pmF, pmO, pmA, pmR, pmW, pmB, Option.isSome_some, ft, olds_ints, olds_bools, ↓reduceIte, Nat.reduceEqDiff, reduceCtorEq, Nat.reduceAdd, Nat.reduceMul, Nat.reduceLeDiff, Nat.reduceLT, Int.reduceLE, Int.reduceLT, Int.reduceEq, Int.reduceToNat, ne_eq]
    refine ⟨fun hlt => ?_, fun hge => ?_⟩
    · have hx := flat_at i3 3 i3_len gs hlt
      have hx2 : i * 3 + 3 ≤ (gs.flatMap i3).length := by rw [flat_length i3 3 i3_len]; omega
      have hw : IntKind.i64.wrap ((i : Int) + 1) = (i : Int) + 1 := wrap_in (by omega) (by omega)
      rw [drop_getD gs hlt] at hp
      generalize gs.getD i default = x at *
      have no : (partQ c) x = false → ∀ σ' : Sl, σ' 0 = σ 0 → σ' 7 = σ 7 → σ' 8 = σ 8 → σ' 9 = .int .i64 (i + 1 : Nat) → K' σ' h' := fun e σ' q0 qL qN qI => by
        rw [List.find?_cons_of_neg (by rw [e]; simp)] at hp
        exact next hlt _ _ ⟨rfl, q0.trans s0, qL.trans sL, qN.trans sN, qI, hp⟩
      have yes : (partQ c) x = true → gs.find? (partQ c) = some x := fun e => by rw [hp, List.find?_cons_of_pos e]
      try simp only [hx, hx2, hlt, sL, sI, i3, pmZ, Int.cast_ofNat_Int, beq_self_eq_true, Heap.kill_kset, pmC, pmE, pmS, pmV, pmK, pmQ, pmL, pmX, pmF, pmO, pmA, pmR, pmW, pmB, Option.isSome_some, ft, olds_ints, olds_bools, ↓reduceIte, Nat.reduceEqDiff, reduceCtorEq, Nat.reduceAdd, Nat.reduceMul, Nat.reduceLeDiff, Nat.reduceLT, Int.reduceLE, Int.reduceLT, Int.reduceEq, Int.reduceToNat, ne_eq]
      intro b hb
      try simp only [Heap.kill_none hb, s0, pmZ, Int.cast_ofNat_Int, beq_self_eq_true, Heap.kill_kset, pmC, pmE, pmS, pmV, pmK, pmQ, pmL, pmX, pmF, pmO, pmA, pmR, pmW, pmB, Option.isSome_some, ft, olds_ints, olds_bools, ↓reduceIte, Nat.reduceEqDiff, reduceCtorEq, Nat.reduceAdd, Nat.reduceMul, Nat.reduceLeDiff, Nat.reduceLT, Int.reduceLE, Int.reduceLT, Int.reduceEq, Int.reduceToNat, ne_eq]
      by_cases h1 : x.2.1 = c
      · have hd := decide_eq_true h1
        have hd' := decide_eq_true h1.symm
        rw [yes (by simp [partQ, h1])] at k
        try simp only [s0, hd, hd', pmZ, Int.cast_ofNat_Int, beq_self_eq_true, Heap.kill_kset, pmC, pmE, pmS, pmV, pmK, pmQ, pmL, pmX, pmF, pmO, pmA, pmR, pmW, pmB, Option.isSome_some, ft, olds_ints, olds_bools, ↓reduceIte, Nat.reduceEqDiff, reduceCtorEq, Nat.reduceAdd, Nat.reduceMul, Nat.reduceLeDiff, Nat.reduceLT, Int.reduceLE, Int.reduceLT, Int.reduceEq, Int.reduceToNat, ne_eq]
        exact finK_le (Heap.le_refl _) (by dsimp only [t3] at k; simpa [h1] using k)
      · have hn := decide_eq_false h1
        have hn' := decide_eq_false (Ne.symm h1)
        by_cases h2 : x.2.2 = c
        · have hd := decide_eq_true h2
          have hd' := decide_eq_true h2.symm
          rw [yes (by simp [partQ, h2])] at k
          try simp only [s0, hn, hn', hd, hd', pmZ, Int.cast_ofNat_Int, beq_self_eq_true, Heap.kill_kset, pmC, pmE, pmS, pmV, pmK, pmQ, pmL, pmX, pmF, pmO, pmA, pmR, pmW, pmB, Option.isSome_some, ft, olds_ints, olds_bools, ↓reduceIte, Nat.reduceEqDiff, reduceCtorEq, Nat.reduceAdd, Nat.reduceMul, Nat.reduceLeDiff, Nat.reduceLT, Int.reduceLE, Int.reduceLT, Int.reduceEq, Int.reduceToNat, ne_eq]
          exact finK_le (Heap.le_refl _) (by dsimp only [t3] at k; simpa [h1] using k)
        · have hd := decide_eq_false h2
          have hd' := decide_eq_false (Ne.symm h2)
          try simp only [s0, hn, hn', hd, hd', sI, hw, pmZ, Int.cast_ofNat_Int, beq_self_eq_true, Heap.kill_kset, pmC, pmE, pmS, pmV, pmK, pmQ, pmL, pmX, pmF, pmO, pmA, pmR, pmW, pmB, Option.isSome_some, ft, olds_ints, olds_bools, ↓reduceIte, Nat.reduceEqDiff, reduceCtorEq, Nat.reduceAdd, Nat.reduceMul, Nat.reduceLeDiff, Nat.reduceLT, Int.reduceLE, Int.reduceLT, Int.reduceEq, Int.reduceToNat, ne_eq]
          exact no (by simp [partQ, h1, h2]) _ (by simp [put]) (by simp [put]) (by simp [put]) (by simp [put])
    · rw [List.drop_eq_nil_of_le (by omega)] at hp
      rw [hp] at k
      try simp only [sI, pmZ, Int.cast_ofNat_Int, beq_self_eq_true, Heap.kill_kset, pmC, pmE, pmS, pmV, pmK, pmQ, pmL, pmX, pmF, pmO, pmA, pmR, pmW, pmB, Option.isSome_some, ft, olds_ints, olds_bools, ↓reduceIte, Nat.reduceEqDiff, reduceCtorEq, Nat.reduceAdd, Nat.reduceMul, Nat.reduceLeDiff, Nat.reduceLT, Int.reduceLE, Int.reduceLT, Int.reduceEq, Int.reduceToNat, ne_eq]
      exact finK_le (Heap.le_refl _) k
theorem Mark0 (c : Int) (hc : c ≠ 0) (h : Heap) {K : PV → Heap → Prop} (k : K (t3b (markP accs c)) h) : CanP Try.prog 65 [.int .i64 c] h K := by
  refine e65 rfl ?_
  try simp only [c65, r65_0, r65_1, r65_2, r65_3, r65_4, r65_5, r65_6, r65_7, r65_8, r65_9, r65_10, r65_11, r65_12, pmZ, Int.cast_ofNat_Int, beq_self_eq_true, Heap.kill_kset, pmC, pmE, pmS, pmV, pmK, pmQ, pmL, pmX, pmF, pmO, pmA, pmR, pmW, pmB, Option.isSome_some, ft, olds_ints, olds_bools, ↓reduceIte, Nat.reduceEqDiff, reduceCtorEq, Nat.reduceAdd, Nat.reduceMul, Nat.reduceLeDiff, Nat.reduceLT, Int.reduceLE, Int.reduceLT, Int.reduceEq, Int.reduceToNat, ne_eq]
  try simp only [hc, pmZ, Int.cast_ofNat_Int, beq_self_eq_true, Heap.kill_kset, pmC, pmE, pmS, pmV, pmK, pmQ, pmL, pmX, pmF, pmO, pmA, pmR, pmW, pmB, Option.isSome_some, ft, olds_ints, olds_bools, ↓reduceIte, Nat.reduceEqDiff, reduceCtorEq, Nat.reduceAdd, Nat.reduceMul, Nat.reduceLeDiff, Nat.reduceLT, Int.reduceLE, Int.reduceLT, Int.reduceEq, Int.reduceToNat, ne_eq]
  refine Accents _ ?_
  have hlen : accs.length ≤ 100 := by decide
  unfold markP at k
  generalize accs = gs at *
  try simp only [pmZ, Int.cast_ofNat_Int, beq_self_eq_true, Heap.kill_kset, pmC, pmE, pmS, pmV, pmK, pmQ, pmL, pmX, pmF, pmO, pmA, pmR, pmW, pmB, Option.isSome_some, ft, olds_ints, olds_bools, ↓reduceIte, Nat.reduceEqDiff, reduceCtorEq, Nat.reduceAdd, Nat.reduceMul, Nat.reduceLeDiff, Nat.reduceLT, Int.reduceLE, Int.reduceLT, Int.reduceEq, Int.reduceToNat, ne_eq]
  refine pwp_up gs.length (fun i σ h' => h' = h ∧ σ 0 = .int .i64 c ∧ σ 9 = .list true 3 gs.length (gs.flatMap i3) ∧ σ 10 = .int .i64 gs.length ∧ σ 11 = .int .i64 i ∧ gs.find? (markQ c) = (gs.drop i).find? (markQ c)) ?_ ?_
  · exact ⟨rfl, rfl, rfl, rfl, rfl, rfl⟩
  · rintro i σ h' K' hi ⟨rfl, s0, sL, sN, sI, hp⟩ next
    try simp only [sL, sN, sI, cdK_dec, pmZ, Int.cast_ofNat_Int, beq_self_eq_true, Heap.kill_kset, pmC, pmE, pmS, pmV, pmK, pmQ, pmL, pmX, pmF, pmO, pmA, pmR, pmW, pmB, Option.isSome_some, ft, olds_ints, olds_bools, ↓reduceIte, Nat.reduceEqDiff, reduceCtorEq, Nat.reduceAdd, Nat.reduceMul, Nat.reduceLeDiff, Nat.reduceLT, Int.reduceLE, Int.reduceLT, Int.reduceEq, Int.reduceToNat, ne_eq]
    refine ⟨fun hlt => ?_, fun hge => ?_⟩
    · have hx := flat_at i3 3 i3_len gs hlt
      have hx2 : i * 3 + 3 ≤ (gs.flatMap i3).length := by rw [flat_length i3 3 i3_len]; omega
      have hw : IntKind.i64.wrap ((i : Int) + 1) = (i : Int) + 1 := wrap_in (by omega) (by omega)
      rw [drop_getD gs hlt] at hp
      generalize gs.getD i default = x at *
      have no : (markQ c) x = false → ∀ σ' : Sl, σ' 0 = σ 0 → σ' 9 = σ 9 → σ' 10 = σ 10 → σ' 11 = .int .i64 (i + 1 : Nat) → K' σ' h' := fun e σ' q0 qL qN qI => by
        rw [List.find?_cons_of_neg (by rw [e]; simp)] at hp
        exact next hlt _ _ ⟨rfl, q0.trans s0, qL.trans sL, qN.trans sN, qI, hp⟩
      have yes : (markQ c) x = true → gs.find? (markQ c) = some x := fun e => by rw [hp, List.find?_cons_of_pos e]
      try simp only [hx, hx2, hlt, sL, sI, i3, pmZ, Int.cast_ofNat_Int, beq_self_eq_true, Heap.kill_kset, pmC, pmE, pmS, pmV, pmK, pmQ, pmL, pmX, pmF, pmO, pmA, pmR, pmW, pmB, Option.isSome_some, ft, olds_ints, olds_bools, ↓reduceIte, Nat.reduceEqDiff, reduceCtorEq, Nat.reduceAdd, Nat.reduceMul, Nat.reduceLeDiff, Nat.reduceLT, Int.reduceLE, Int.reduceLT, Int.reduceEq, Int.reduceToNat, ne_eq]
      intro b hb
      try simp only [Heap.kill_none hb, s0, pmZ, Int.cast_ofNat_Int, beq_self_eq_true, Heap.kill_kset, pmC, pmE, pmS, pmV, pmK, pmQ, pmL, pmX, pmF, pmO, pmA, pmR, pmW, pmB, Option.isSome_some, ft, olds_ints, olds_bools, ↓reduceIte, Nat.reduceEqDiff, reduceCtorEq, Nat.reduceAdd, Nat.reduceMul, Nat.reduceLeDiff, Nat.reduceLT, Int.reduceLE, Int.reduceLT, Int.reduceEq, Int.reduceToNat, ne_eq]
      by_cases h1 : x.2.1 = c
      · have hd := decide_eq_true h1
        have hd' := decide_eq_true h1.symm
        rw [yes (by simp [markQ, h1])] at k
        try simp only [s0, hd, hd', pmZ, Int.cast_ofNat_Int, beq_self_eq_true, Heap.kill_kset, pmC, pmE, pmS, pmV, pmK, pmQ, pmL, pmX, pmF, pmO, pmA, pmR, pmW, pmB, Option.isSome_some, ft, olds_ints, olds_bools, ↓reduceIte, Nat.reduceEqDiff, reduceCtorEq, Nat.reduceAdd, Nat.reduceMul, Nat.reduceLeDiff, Nat.reduceLT, Int.reduceLE, Int.reduceLT, Int.reduceEq, Int.reduceToNat, ne_eq]
        exact finK_le (Heap.le_refl _) (by dsimp only [t3b] at k; simpa [h1] using k)
      · have hn := decide_eq_false h1
        have hn' := decide_eq_false (Ne.symm h1)
        by_cases h2 : x.2.2 = c
        · have hd := decide_eq_true h2
          have hd' := decide_eq_true h2.symm
          rw [yes (by simp [markQ, h2, hc])] at k
          try simp only [s0, hn, hn', hd, hd', pmZ, Int.cast_ofNat_Int, beq_self_eq_true, Heap.kill_kset, pmC, pmE, pmS, pmV, pmK, pmQ, pmL, pmX, pmF, pmO, pmA, pmR, pmW, pmB, Option.isSome_some, ft, olds_ints, olds_bools, ↓reduceIte, Nat.reduceEqDiff, reduceCtorEq, Nat.reduceAdd, Nat.reduceMul, Nat.reduceLeDiff, Nat.reduceLT, Int.reduceLE, Int.reduceLT, Int.reduceEq, Int.reduceToNat, ne_eq]
          exact finK_le (Heap.le_refl _) (by dsimp only [t3b] at k; simpa [h1] using k)
        · have hd := decide_eq_false h2
          have hd' := decide_eq_false (Ne.symm h2)
          try simp only [s0, hn, hn', hd, hd', sI, hw, pmZ, Int.cast_ofNat_Int, beq_self_eq_true, Heap.kill_kset, pmC, pmE, pmS, pmV, pmK, pmQ, pmL, pmX, pmF, pmO, pmA, pmR, pmW, pmB, Option.isSome_some, ft, olds_ints, olds_bools, ↓reduceIte, Nat.reduceEqDiff, reduceCtorEq, Nat.reduceAdd, Nat.reduceMul, Nat.reduceLeDiff, Nat.reduceLT, Int.reduceLE, Int.reduceLT, Int.reduceEq, Int.reduceToNat, ne_eq]
          exact no (by simp [markQ, h1, h2]) _ (by simp [put]) (by simp [put]) (by simp [put]) (by simp [put])
    · rw [List.drop_eq_nil_of_le (by omega)] at hp
      rw [hp] at k
      try simp only [sI, pmZ, Int.cast_ofNat_Int, beq_self_eq_true, Heap.kill_kset, pmC, pmE, pmS, pmV, pmK, pmQ, pmL, pmX, pmF, pmO, pmA, pmR, pmW, pmB, Option.isSome_some, ft, olds_ints, olds_bools, ↓reduceIte, Nat.reduceEqDiff, reduceCtorEq, Nat.reduceAdd, Nat.reduceMul, Nat.reduceLeDiff, Nat.reduceLT, Int.reduceLE, Int.reduceLT, Int.reduceEq, Int.reduceToNat, ne_eq]
      exact finK_le (Heap.le_refl _) k
theorem accs_no : ∀ x ∈ accs, markQ 0 x = false := by decide
theorem mark_zero : markP accs 0 = (0, false, false) := by unfold markP; rw [List.find?_eq_none.2 fun x hx => by rw [accs_no x hx]; simp]
theorem FMark (c : Int) (h : Heap) {K : PV → Heap → Prop} (k : K (t3b (markP accs c)) h) : CanP Try.prog 65 [.int .i64 c] h K := by
  by_cases hc : c = 0
  · subst hc
    rw [mark_zero] at k
    refine e65 rfl ?_
    try simp only [c65, r65_0, r65_1, r65_2, r65_3, r65_4, r65_5, r65_6, r65_7, r65_8, r65_9, r65_10, r65_11, r65_12, pmZ, Int.cast_ofNat_Int, beq_self_eq_true, Heap.kill_kset, pmC, pmE, pmS, pmV, pmK, pmQ, pmL, pmX, pmF, pmO, pmA, pmR, pmW, pmB, Option.isSome_some, ft, olds_ints, olds_bools, ↓reduceIte, Nat.reduceEqDiff, reduceCtorEq, Nat.reduceAdd, Nat.reduceMul, Nat.reduceLeDiff, Nat.reduceLT, Int.reduceLE, Int.reduceLT, Int.reduceEq, Int.reduceToNat, ne_eq]
    exact finK_le (Heap.le_refl _) k
  · exact Mark0 c hc h k
theorem Unpile (c : Int) (h : Heap) {K : PV → Heap → Prop} (k : K (t2 (unpP pils c)) h) : CanP Try.prog 66 [.int .i64 c] h K := by
  refine e66 rfl ?_
  try simp only [c66, r66_0, r66_1, r66_2, r66_3, r66_4, r66_5, r66_6, r66_7, pmZ, Int.cast_ofNat_Int, beq_self_eq_true, Heap.kill_kset, pmC, pmE, pmS, pmV, pmK, pmQ, pmL, pmX, pmF, pmO, pmA, pmR, pmW, pmB, Option.isSome_some, ft, olds_ints, olds_bools, ↓reduceIte, Nat.reduceEqDiff, reduceCtorEq, Nat.reduceAdd, Nat.reduceMul, Nat.reduceLeDiff, Nat.reduceLT, Int.reduceLE, Int.reduceLT, Int.reduceEq, Int.reduceToNat, ne_eq]
  refine Piles _ ?_
  have hlen : pils.length ≤ 100 := by decide
  unfold unpP at k
  generalize pils = gs at *
  try simp only [pmZ, Int.cast_ofNat_Int, beq_self_eq_true, Heap.kill_kset, pmC, pmE, pmS, pmV, pmK, pmQ, pmL, pmX, pmF, pmO, pmA, pmR, pmW, pmB, Option.isSome_some, ft, olds_ints, olds_bools, ↓reduceIte, Nat.reduceEqDiff, reduceCtorEq, Nat.reduceAdd, Nat.reduceMul, Nat.reduceLeDiff, Nat.reduceLT, Int.reduceLE, Int.reduceLT, Int.reduceEq, Int.reduceToNat, ne_eq]
  refine pwp_up gs.length (fun i σ h' => h' = h ∧ σ 0 = .int .i64 c ∧ σ 6 = .list true 2 gs.length (gs.flatMap i2) ∧ σ 7 = .int .i64 gs.length ∧ σ 8 = .int .i64 i ∧ gs.find? (sq2 c) = (gs.drop i).find? (sq2 c)) ?_ ?_
  · exact ⟨rfl, rfl, rfl, rfl, rfl, rfl⟩
  · rintro i σ h' K' hi ⟨rfl, s0, sL, sN, sI, hp⟩ next
    try simp only [sL, sN, sI, cdK_dec, pmZ, Int.cast_ofNat_Int, beq_self_eq_true, Heap.kill_kset, pmC, pmE, pmS, pmV, pmK, pmQ, pmL, pmX, pmF, pmO, pmA, pmR, pmW, pmB, Option.isSome_some, ft, olds_ints, olds_bools, ↓reduceIte, Nat.reduceEqDiff, reduceCtorEq, Nat.reduceAdd, Nat.reduceMul, Nat.reduceLeDiff, Nat.reduceLT, Int.reduceLE, Int.reduceLT, Int.reduceEq, Int.reduceToNat, ne_eq]
    refine ⟨fun hlt => ?_, fun hge => ?_⟩
    · have hx := flat_at i2 2 i2_len gs hlt
      have hx2 : i * 2 + 2 ≤ (gs.flatMap i2).length := by rw [flat_length i2 2 i2_len]; omega
      have hw : IntKind.i64.wrap ((i : Int) + 1) = (i : Int) + 1 := wrap_in (by omega) (by omega)
      rw [drop_getD gs hlt] at hp
      generalize gs.getD i default = x at *
      have no : (sq2 c) x = false → ∀ σ' : Sl, σ' 0 = σ 0 → σ' 6 = σ 6 → σ' 7 = σ 7 → σ' 8 = .int .i64 (i + 1 : Nat) → K' σ' h' := fun e σ' q0 qL qN qI => by
        rw [List.find?_cons_of_neg (by rw [e]; simp)] at hp
        exact next hlt _ _ ⟨rfl, q0.trans s0, qL.trans sL, qN.trans sN, qI, hp⟩
      have yes : (sq2 c) x = true → gs.find? (sq2 c) = some x := fun e => by rw [hp, List.find?_cons_of_pos e]
      try simp only [hx, hx2, hlt, sL, sI, i2, pmZ, Int.cast_ofNat_Int, beq_self_eq_true, Heap.kill_kset, pmC, pmE, pmS, pmV, pmK, pmQ, pmL, pmX, pmF, pmO, pmA, pmR, pmW, pmB, Option.isSome_some, ft, olds_ints, olds_bools, ↓reduceIte, Nat.reduceEqDiff, reduceCtorEq, Nat.reduceAdd, Nat.reduceMul, Nat.reduceLeDiff, Nat.reduceLT, Int.reduceLE, Int.reduceLT, Int.reduceEq, Int.reduceToNat, ne_eq]
      intro b hb
      try simp only [Heap.kill_none hb, s0, pmZ, Int.cast_ofNat_Int, beq_self_eq_true, Heap.kill_kset, pmC, pmE, pmS, pmV, pmK, pmQ, pmL, pmX, pmF, pmO, pmA, pmR, pmW, pmB, Option.isSome_some, ft, olds_ints, olds_bools, ↓reduceIte, Nat.reduceEqDiff, reduceCtorEq, Nat.reduceAdd, Nat.reduceMul, Nat.reduceLeDiff, Nat.reduceLT, Int.reduceLE, Int.reduceLT, Int.reduceEq, Int.reduceToNat, ne_eq]
      by_cases h1 : x.2 = c
      · have hd := decide_eq_true h1
        rw [yes (by simp [fq3, fq2, sq2, h1])] at k
        try simp only [s0, hd, pmZ, Int.cast_ofNat_Int, beq_self_eq_true, Heap.kill_kset, pmC, pmE, pmS, pmV, pmK, pmQ, pmL, pmX, pmF, pmO, pmA, pmR, pmW, pmB, Option.isSome_some, ft, olds_ints, olds_bools, ↓reduceIte, Nat.reduceEqDiff, reduceCtorEq, Nat.reduceAdd, Nat.reduceMul, Nat.reduceLeDiff, Nat.reduceLT, Int.reduceLE, Int.reduceLT, Int.reduceEq, Int.reduceToNat, ne_eq]
        exact finK_le (Heap.le_refl _) k
      · have hn := decide_eq_false h1
        try simp only [s0, hn, sI, hw, pmZ, Int.cast_ofNat_Int, beq_self_eq_true, Heap.kill_kset, pmC, pmE, pmS, pmV, pmK, pmQ, pmL, pmX, pmF, pmO, pmA, pmR, pmW, pmB, Option.isSome_some, ft, olds_ints, olds_bools, ↓reduceIte, Nat.reduceEqDiff, reduceCtorEq, Nat.reduceAdd, Nat.reduceMul, Nat.reduceLeDiff, Nat.reduceLT, Int.reduceLE, Int.reduceLT, Int.reduceEq, Int.reduceToNat, ne_eq]
        exact no (by simp [fq3, fq2, sq2, h1]) _ (by simp [put]) (by simp [put]) (by simp [put]) (by simp [put])
    · rw [List.drop_eq_nil_of_le (by omega)] at hp
      rw [hp] at k
      try simp only [sI, pmZ, Int.cast_ofNat_Int, beq_self_eq_true, Heap.kill_kset, pmC, pmE, pmS, pmV, pmK, pmQ, pmL, pmX, pmF, pmO, pmA, pmR, pmW, pmB, Option.isSome_some, ft, olds_ints, olds_bools, ↓reduceIte, Nat.reduceEqDiff, reduceCtorEq, Nat.reduceAdd, Nat.reduceMul, Nat.reduceLeDiff, Nat.reduceLT, Int.reduceLE, Int.reduceLT, Int.reduceEq, Int.reduceToNat, ne_eq]
      exact finK_le (Heap.le_refl _) k
theorem kinds (c : Int) (h : Heap) {K : PV → Heap → Prop} (k : K (.agg [.bool (baseF lets c).2.2, .bool (partP ligs c).2.2, .bool (markP accs c).2.2, .bool (unpP pils c).2]) h) : CanP Try.prog 45 [.int .i64 c] h K := by
  refine e45 rfl ?_
  try simp only [c45, r45_0, r45_1, r45_2, r45_3, r45_4, r45_5, r45_6, pmZ, Int.cast_ofNat_Int, beq_self_eq_true, Heap.kill_kset, pmC, pmE, pmS, pmV, pmK, pmQ, pmL, pmX, pmF, pmO, pmA, pmR, pmW, pmB, Option.isSome_some, ft, olds_ints, olds_bools, ↓reduceIte, Nat.reduceEqDiff, reduceCtorEq, Nat.reduceAdd, Nat.reduceMul, Nat.reduceLeDiff, Nat.reduceLT, Int.reduceLE, Int.reduceLT, Int.reduceEq, Int.reduceToNat, ne_eq]
  intro b hb b3 hb3
  have hne : b ≠ b3 := fun e => by rw [← e, Heap.set_same] at hb3; cases hb3
  have hb3' : h.f b3 = none := by rwa [Heap.set_ne _ _ (Ne.symm hne)] at hb3
  have hs : ∀ (g : Heap) (Y : List PV), (g.set b3 Y).f b = g.f b := fun g Y => Heap.set_ne g Y hne
  refine Base _ _ ?_
  try simp only [baseP, pmZ, Int.cast_ofNat_Int, beq_self_eq_true, Heap.kill_kset, pmC, pmE, pmS, pmV, pmK, pmQ, pmL, pmX, pmF, pmO, pmA, pmR, pmW, pmB, Option.isSome_some, ft, olds_ints, olds_bools, ↓reduceIte, Nat.reduceEqDiff, reduceCtorEq, Nat.reduceAdd, Nat.reduceMul, Nat.reduceLeDiff, Nat.reduceLT, Int.reduceLE, Int.reduceLT, Int.reduceEq, Int.reduceToNat, ne_eq]
  refine Parted _ _ ?_
  try simp only [t3, pmZ, Int.cast_ofNat_Int, beq_self_eq_true, Heap.kill_kset, pmC, pmE, pmS, pmV, pmK, pmQ, pmL, pmX, pmF, pmO, pmA, pmR, pmW, pmB, Option.isSome_some, ft, olds_ints, olds_bools, ↓reduceIte, Nat.reduceEqDiff, reduceCtorEq, Nat.reduceAdd, Nat.reduceMul, Nat.reduceLeDiff, Nat.reduceLT, Int.reduceLE, Int.reduceLT, Int.reduceEq, Int.reduceToNat, ne_eq]
  refine FMark _ _ ?_
  try simp only [t3b, pmZ, Int.cast_ofNat_Int, beq_self_eq_true, Heap.kill_kset, pmC, pmE, pmS, pmV, pmK, pmQ, pmL, pmX, pmF, pmO, pmA, pmR, pmW, pmB, Option.isSome_some, ft, olds_ints, olds_bools, ↓reduceIte, Nat.reduceEqDiff, reduceCtorEq, Nat.reduceAdd, Nat.reduceMul, Nat.reduceLeDiff, Nat.reduceLT, Int.reduceLE, Int.reduceLT, Int.reduceEq, Int.reduceToNat, ne_eq]
  refine Unpile _ _ ?_
  try simp only [t2, hs, pmZ, Int.cast_ofNat_Int, beq_self_eq_true, Heap.kill_kset, pmC, pmE, pmS, pmV, pmK, pmQ, pmL, pmX, pmF, pmO, pmA, pmR, pmW, pmB, Option.isSome_some, ft, olds_ints, olds_bools, ↓reduceIte, Nat.reduceEqDiff, reduceCtorEq, Nat.reduceAdd, Nat.reduceMul, Nat.reduceLeDiff, Nat.reduceLT, Int.reduceLE, Int.reduceLT, Int.reduceEq, Int.reduceToNat, ne_eq]
  exact finK_le (Heap.le_set (Heap.le_set (Heap.le_set (Heap.le_refl _) hb) hb3') hb) k
/-- Is a code a form? -/
def presB (c : Int) : Bool := decide (c = 65139) || ((baseF lets c).2.2 || (partP ligs c).2.2 || (markP accs c).2.2 || (unpP pils c).2)
theorem Presented (c : Int) (h : Heap) {K : PV → Heap → Prop} (k : K (.bool (presB c)) h) : CanP Try.prog 29 [.int .i64 c] h K := by
  refine e29 rfl ?_
  try simp only [c29, r29_0, r29_1, r29_2, pmZ, Int.cast_ofNat_Int, beq_self_eq_true, Heap.kill_kset, pmC, pmE, pmS, pmV, pmK, pmQ, pmL, pmX, pmF, pmO, pmA, pmR, pmW, pmB, Option.isSome_some, ft, olds_ints, olds_bools, ↓reduceIte, Nat.reduceEqDiff, reduceCtorEq, Nat.reduceAdd, Nat.reduceMul, Nat.reduceLeDiff, Nat.reduceLT, Int.reduceLE, Int.reduceLT, Int.reduceEq, Int.reduceToNat, ne_eq]
  by_cases h1 : c = 65139
  · have hd := decide_eq_true h1
    try simp only [hd, pmZ, Int.cast_ofNat_Int, beq_self_eq_true, Heap.kill_kset, pmC, pmE, pmS, pmV, pmK, pmQ, pmL, pmX, pmF, pmO, pmA, pmR, pmW, pmB, Option.isSome_some, ft, olds_ints, olds_bools, ↓reduceIte, Nat.reduceEqDiff, reduceCtorEq, Nat.reduceAdd, Nat.reduceMul, Nat.reduceLeDiff, Nat.reduceLT, Int.reduceLE, Int.reduceLT, Int.reduceEq, Int.reduceToNat, ne_eq]
    exact finK_le (Heap.le_refl _) (by simpa [presB, h1] using k)
  · have hd := decide_eq_false h1
    try simp only [hd, pmZ, Int.cast_ofNat_Int, beq_self_eq_true, Heap.kill_kset, pmC, pmE, pmS, pmV, pmK, pmQ, pmL, pmX, pmF, pmO, pmA, pmR, pmW, pmB, Option.isSome_some, ft, olds_ints, olds_bools, ↓reduceIte, Nat.reduceEqDiff, reduceCtorEq, Nat.reduceAdd, Nat.reduceMul, Nat.reduceLeDiff, Nat.reduceLT, Int.reduceLE, Int.reduceLT, Int.reduceEq, Int.reduceToNat, ne_eq]
    refine ⟨_, kinds _ _ ⟨rfl, rfl⟩, ?_⟩
    try simp only [Option.map_some, Option.some.injEq, false_and, pmZ, Int.cast_ofNat_Int, beq_self_eq_true, Heap.kill_kset, pmC, pmE, pmS, pmV, pmK, pmQ, pmL, pmX, pmF, pmO, pmA, pmR, pmW, pmB, Option.isSome_some, ft, olds_ints, olds_bools, ↓reduceIte, Nat.reduceEqDiff, reduceCtorEq, Nat.reduceAdd, Nat.reduceMul, Nat.reduceLeDiff, Nat.reduceLT, Int.reduceLE, Int.reduceLT, Int.reduceEq, Int.reduceToNat, ne_eq]
    refine finK_le (Heap.le_refl _) ?_
    rw [presB, hd] at k
    generalize (baseF lets c).2.2 = a1 at *
    generalize (partP ligs c).2.2 = a2 at *
    generalize (markP accs c).2.2 = a3 at *
    generalize (unpP pils c).2 = a4 at *
    cases a1 <;> cases a2 <;> cases a3 <;> cases a4 <;> exact k
def kinds_FormsGives : List AKind := [.one (some .i64), .one (some .i64)]
def kinds_FormsMarks : List AKind := [.one (some .i64), .one none]
def kinds_FormsTakes : List AKind := [.one (some .i64)]
end Go.Proofs.Ytcgaphmndnmfdaa
