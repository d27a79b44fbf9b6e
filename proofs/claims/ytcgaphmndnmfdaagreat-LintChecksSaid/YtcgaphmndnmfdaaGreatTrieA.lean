/-
  Tables of codes' values: whether ranges may be, and the block of a part: the package trie.
  Conditions: none but those that each sentence tells.
-/
import Derived.Test.YtcgaphmndnmfdaaGreatRng0
namespace Go.Proofs.YtcgaphmndnmfdaaGreat
open Go.Pm
open Nat renaming reduceEqDiff → nE, reduceAdd → nA, reduceMul → nM, reduceLeDiff → nD, reduceLT → nL
open Int renaming reduceLE → iL, reduceLT → iT, reduceEq → iE, reduceToNat → iN, cast_ofNat_Int → iC
set_option maxRecDepth 100000
set_option linter.unusedSimpArgs false
set_option linter.unusedVariables false

theorem may (fr : Bool) (l : List R3) (ok : mayB (-1) l = true) (hl : l.length ≤ 4096) (h : Heap) {K : PV → Heap → Prop} (k : K (.int .i64 0) h) : CanP Tryz.prog 55 [.list fr 3 l.length (l.flatMap r3)] h K := by
  refine e55 rfl ?_
  have hn : ¬ (4096 : Int) < l.length := by omega
  try simp only [c55, r55_0, r55_1, r55_2, r55_3, r55_4, r55_5, r55_6, r55_7, r55_8, r55_9, r55_10, r55_11, old_r3, hn, pm, pmW, pmB, ft, ↓reduceIte, reduceCtorEq, nE, nA, nM, nD, nL, iL, iT, iE, iN, iC]
  refine pwp_up l.length (fun i σ h' => h' = h ∧ σ 9 = .list false 3 l.length (l.flatMap r3) ∧ σ 10 = .int .i64 l.length ∧ σ 11 = .int .i64 i ∧ ∃ e, σ 3 = .int .i64 e ∧ mayB e (l.drop i) = true) ?_ ?_
  · exact ⟨rfl, rfl, rfl, rfl, -1, rfl, ok⟩
  · rintro i σ h' K' hi ⟨rfl, s9, s10, s11, e, s3, hm⟩ next
    try simp only [s9, s10, s11, cdK_dec, pm, pmW, pmB, ft, ↓reduceIte, reduceCtorEq, nE, nA, nM, nD, nL, iL, iT, iE, iN, iC]
    refine ⟨fun hlt => ?_, fun hge => ?_⟩
    · have hx := flat_at r3 3 r3_len l hlt
      have hx2 : i * 3 + 3 ≤ (l.flatMap r3).length := by rw [flat_length r3 3 r3_len]; omega
      rw [drop_getD l hlt] at hm
      generalize l.getD i default = r at *
      simp only [mayB, Bool.and_eq_true, Bool.not_eq_true', decide_eq_false_iff_not] at hm
      obtain ⟨m1, m2, m3, m4⟩ := hm
      try simp only [hx, hx2, hlt, s9, s11, r3, pm, pmW, pmB, ft, ↓reduceIte, reduceCtorEq, nE, nA, nM, nD, nL, iL, iT, iE, iN, iC]
      intro b hb
      try simp only [Heap.kill_none hb, s3, s11, m1, m2, m3, pm, pmW, pmB, ft, ↓reduceIte, reduceCtorEq, nE, nA, nM, nD, nL, iL, iT, iE, iN, iC]
      rw [wrap_in (by omega) (by omega)]
      exact next hlt _ _ ⟨rfl, by simp [put, s9], by simp [put, s10], by simp [put], r.2.1, by simp [put], m4⟩
    · try simp only [s9, pm, pmW, pmB, ft, ↓reduceIte, reduceCtorEq, nE, nA, nM, nD, nL, iL, iT, iE, iN, iC]
      exact finK_le (Heap.le_refl _) k
def blk (g : Nat → Int) : List Int := (List.range 128).map g
theorem blk_len (g : Nat → Int) : (blk g).length = 128 := by simp [blk]
theorem blk_get (g : Nat → Int) {j : Nat} (h : j < 128) : (blk g).getD j default = g j := by simp [blk, List.getD, h]
theorem blk_set (g : Nat → Int) {j : Nat} (h : j < 128) (v : Int) : (blk g).set j v = blk fun i => if i = j then v else g i := by
  apply List.ext_getElem?
  intro k
  simp only [blk, List.getElem?_set, List.length_map, List.length_range, List.getElem?_map, List.getElem?_range]
  by_cases e : j = k
  · subst e; simp [h]
  · by_cases hk : k < 128
    · simp [e, hk, Ne.symm e]
    · simp [e, hk]
theorem blk_congr {g g' : Nat → Int} (h : ∀ j, j < 128 → g j = g' j) : blk g = blk g' := by
  unfold blk; apply List.map_congr_left; intro j hj; exact h j (by simpa using hj)
theorem zero_blk : List.replicate 128 (PV.int .i64 0) = (blk fun _ => 0).map (.int .i64) := by kernel_rfl
theorem blk_cells (g : Nat → Int) : ((blk g).map (PV.int .i64)).length = 128 := by simp [blk]
theorem wr_blk (g g' : Nat → Int) : wr ((blk g).map (PV.int .i64)) 0 ((blk g').map (PV.int .i64)) = (blk g').map (.int .i64) := by
  simp only [wr, List.take_zero, List.nil_append, Nat.zero_add, blk_cells]
  rw [List.drop_of_length_le (by rw [blk_cells]; omega), List.append_nil]
theorem take_blk (g : Nat → Int) : ((blk g).map (PV.int .i64)).take 128 = (blk g).map (.int .i64) := List.take_of_length_le (by rw [blk_cells]; omega)
theorem even (v : Int) (h : Heap) {K : PV → Heap → Prop} (k : K (.agg ((blk fun _ => v).map (.int .i64))) h) : CanP Tryz.prog 96 [.int .i64 v] h K := by
  refine e96 rfl ?_
  try simp only [c96, r96_0, r96_1, r96_2, r96_3, r96_4, r96_5, r96_6, r96_7, zero_blk, pm, pmW, pmB, ft, ↓reduceIte, reduceCtorEq, nE, nA, nM, nD, nL, iL, iT, iE, iN, iC]
  intro b hb b3 hb3
  have hne : b ≠ b3 := fun e => by rw [← e, Heap.set_same] at hb3; cases hb3
  have hb3' : h.f b3 = none := by rwa [Heap.set_ne _ _ (Ne.symm hne)] at hb3
  refine pwp_up 128 (fun i σ h' => Own h h' b ((blk fun _ => 0).map (.int .i64)) ∧ Own h h' b3 ((blk fun j => if j < i then v else 0).map (.int .i64)) ∧ h.le h' ∧ σ 0 = .int .i64 v ∧ σ 2 = .ptr b 0 ∧ σ 3 = .ptr b3 0 ∧ σ 5 = .int .i64 i) ?_ ?_
  · exact ⟨⟨hb, by rw [Heap.set_ne _ _ hne, Heap.set_same]⟩, ⟨hb3', by rw [Heap.set_same]; rfl⟩, Heap.le_set (Heap.le_set (Heap.le_refl _) hb) hb3', rfl, rfl, rfl, rfl⟩
  · rintro i σ h' K' hi ⟨o2, o3, lh, s0, s2, s3, s5⟩ next
    have g2 := o2.2
    have g3 := o3.2
    try simp only [s5, cdK_dec, pm, pmW, pmB, ft, ↓reduceIte, reduceCtorEq, nE, nA, nM, nD, nL, iL, iT, iE, iN, iC]
    refine ⟨fun hlt => ?_, fun hge => ?_⟩
    · have hi4 : i < 128 := by omega
      have hi5 : (i : Int) < 128 := by omega
      have hw := fun x => wr_map (PV.int .i64) x (blk fun j => if j < i then v else 0) (i := i) (by rw [blk_len]; omega)
      try simp only [s0, s3, s5, hi4, hi5, Nat.mul_one, g3, blk_cells, hw, pm, pmW, pmB, ft, ↓reduceIte, reduceCtorEq, nE, nA, nM, nD, nL, iL, iT, iE, iN, iC]
      refine ⟨by omega, ?_⟩
      rw [wrap_in (by omega) (by omega)]
      refine next hi4 _ _ ⟨o2.other (Ne.symm hne), ?_, o3.le lh, by simp [put, s0], by simp [put, s2], by simp [put, s3], by simp [put]⟩
      rw [blk_set _ hi4]
      have : (blk fun k => if k = i then v else if k < i then v else 0) = blk fun j => if j < i + 1 then v else 0 := blk_congr fun j _ => by
        by_cases e : j = i
        · simp [e]
        · by_cases e2 : j < i
          · simp [e, e2, show j < i + 1 by omega]
          · simp [e, e2, show ¬ j < i + 1 by omega]
      rw [this]; exact o3.set
    · have hi4 : i = 128 := by omega
      subst hi4
      try simp only [s2, s3, g2, g3, blk_cells, take_blk, wr_blk, pm, pmW, pmB, ft, ↓reduceIte, reduceCtorEq, nE, nA, nM, nD, nL, iL, iT, iE, iN, iC]
      have : (blk fun j => if j < 128 then v else 0) = blk fun _ => v := blk_congr fun j hj => if_pos hj
      rw [this]
      exact finK_le (o2.le lh) k
/-- The values of a part's codes. -/
def Bk (l : List R3) (n : Int) (p : Nat) : List Int := blk fun j => getR l n ((p : Int) * 128 + j)
theorem filled (fr : Bool) (l : List R3) (ok : mayB (-1) l = true) (hl : l.length ≤ 4096) (p f : Nat) (n : Int) (hp : p < 8704) (hf : f ≤ l.length) (hb : ∀ i, i < f → (l.getD i default).2.1 < (p : Int) * 128) (h : Heap) {K : PV → Heap → Prop}
    (k : ∀ f' : Nat, f' ≤ l.length → (∀ i, i < f' → (l.getD i default).2.1 < ((p : Int) + 1) * 128) → K (.tup [.agg ((Bk l n p).map (.int .i64)), .int .i64 f']) h) :
    CanP Tryz.prog 56 [.list fr 3 l.length (l.flatMap r3), .int .i64 p, .int .i64 f, .int .i64 n] h K := by
  obtain ⟨ms1, ms2⟩ := may_spec l (-1) ok
  refine e56 rfl ?_
  try simp only [c56, r56_0, r56_1, r56_2, r56_3, r56_4, r56_5, r56_6, r56_7, r56_8, r56_9, r56_10, r56_11, old_r3, zero_blk, pm, pmW, pmB, ft, ↓reduceIte, reduceCtorEq, nE, nA, nM, nD, nL, iL, iT, iE, iN, iC]
  intro b8 hb8
  refine even _ _ ?_
  try simp only [zero_blk, blk_cells, wr_blk, Nat.le_refl, pm, pmW, pmB, ft, ↓reduceIte, reduceCtorEq, nE, nA, nM, nD, nL, iL, iT, iE, iN, iC]
  intro b10 hb10
  have hne : b8 ≠ b10 := fun e => by rw [← e, Heap.set_same] at hb10; cases hb10
  have hb10' : h.f b10 = none := by rwa [Heap.set_ne _ _ (Ne.symm hne)] at hb10
  have hw : IntKind.i64.wrap ((p : Int) * 128) = (p : Int) * 128 := wrap_in (by omega) (by omega)
  have ha : IntKind.i64.wrap ((p : Int) * 128 + 128) = (p : Int) * 128 + 128 := wrap_in (by omega) (by omega)
  have ha1 : IntKind.i64.wrap ((p : Int) * 128 + 128 - 1) = (p : Int) * 128 + 127 := by rw [wrap_in (by omega) (by omega)]; omega
  try simp only [hw, zero_blk, blk_cells, wr_blk, Nat.le_refl, pm, pmW, pmB, ft, ↓reduceIte, reduceCtorEq, nE, nA, nM, nD, nL, iL, iT, iE, iN, iC]
  refine pwp_up (l.length - f) (fun m σ h' => ∃ g : Nat → Int, Own h h' b8 ((blk fun _ => 0).map (.int .i64)) ∧ Own h h' b10 ((blk g).map (.int .i64)) ∧ h.le h' ∧ σ 0 = .list false 3 l.length (l.flatMap r3) ∧ σ 2 = .int .i64 ((f + m : Nat) : Int) ∧ σ 8 = .ptr b8 0 ∧ σ 10 = .ptr b10 0 ∧ σ 11 = .int .i64 ((p : Int) * 128) ∧
    (∀ j, j < 128 → g j = getR (l.take (f + m)) n ((p : Int) * 128 + j)) ∧ ∀ i, i < f + m → (l.getD i default).2.1 < ((p : Int) + 1) * 128) ?_ ?_
  · refine ⟨fun _ => n, ⟨hb8, by rw [Heap.set_ne _ _ hne, Heap.set_same]⟩, ⟨hb10', by rw [Heap.set_same]⟩, Heap.le_set (Heap.le_set (Heap.le_refl _) hb8) hb10', rfl, rfl, rfl, rfl, rfl, fun j hj => ?_, fun i hi => by have := hb i hi; omega⟩
    rw [getR_skip fun r hr => ?_]
    obtain ⟨i, h1, h2⟩ := List.mem_iff_getElem.1 hr
    simp only [List.length_take] at h1
    have := hb i (by omega)
    simp only [List.getElem_take] at h2
    rw [List.getD, List.getElem?_eq_getElem (by omega), Option.getD_some, h2] at this
    omega
  · rintro m σ h' K' hm ⟨g, o8, o10, lh, s0, s2, s8, s10, s11, hg, hbb⟩ next
    have g8 := o8.2
    have g10 := o10.2
    -- what is left when the loop ends at `q`: nothing further meets this part
    have done : ∀ q : Nat, q ≤ l.length → (∀ j, j < 128 → g j = getR (l.take q) n ((p : Int) * 128 + j)) → True := fun _ _ _ => trivial
    have fin2 : ∀ (g' : Nat → Int) (q q' : Nat) (σ' : Sl) (h'' : Heap), q ≤ l.length → q' ≤ l.length → (∀ j, j < 128 → g' j = getR (l.take q) n ((p : Int) * 128 + j)) → (∀ i, q ≤ i → i < l.length → ((p : Int) + 1) * 128 ≤ (l.getD i default).1) →
        (∀ i, i < q' → (l.getD i default).2.1 < ((p : Int) + 1) * 128) → Own h h'' b8 ((blk fun _ => 0).map (.int .i64)) → h.le h'' → finK (.tup [.agg ((blk g').map (.int .i64)), .int .i64 q']) h K (h''.set b8 ((blk g').map (.int .i64))) := fun g' q q' σ' h'' h1 h1' h2 h3 h4 h5 h6 => by
      refine finK_le (h5.le h6) ?_
      have : blk g' = Bk l n p := blk_congr fun j hj => by
        rw [h2 j hj, ← List.take_append_drop q l, List.take_append_drop q l]
        conv => rhs; rw [← List.take_append_drop q l]
        rw [getR_app]
        intro r hr
        obtain ⟨i, q1, q2⟩ := List.mem_iff_getElem.1 hr
        simp only [List.length_drop] at q1
        have := h3 (q + i) (by omega) (by omega)
        simp only [List.getElem_drop] at q2
        rw [List.getD, List.getElem?_eq_getElem (by omega), Option.getD_some, q2] at this
        omega
      rw [this]
      exact k q' h1' h4
    by_cases hlt : f + m < l.length
    · have hx := flat_at r3 3 r3_len l hlt
      have x0 := flat_get r3 3 r3_len l hlt (j := 0) (by omega)
      have hx2 : (f + m) * 3 + 3 ≤ (l.flatMap r3).length := by rw [flat_length r3 3 r3_len]; omega
      rw [Nat.add_zero, show (r3 (l.getD (f + m) default))[0]? = some (PV.int .i64 (l.getD (f + m) default).1) from rfl] at x0
      have m1 := ms1 (f + m) hlt
      have m2 := ms2
      have hlt2 : ((f + m : Nat) : Int) < l.length := by omega
      by_cases hlo : (l.getD (f + m) default).1 < (p : Int) * 128 + 128
      · try simp only [s0, s2, s11, hlt, hlt2, x0, ha, hlo, hx, hx2, r3, pm, pmW, pmB, ft, ↓reduceIte, reduceCtorEq, nE, nA, nM, nD, nL, iL, iT, iE, iN, iC]
        intro b12 hb12
        try simp only [Heap.kill_none hb12, pm, pmW, pmB, ft, ↓reduceIte, reduceCtorEq, nE, nA, nM, nD, nL, iL, iT, iE, iN, iC]
        generalize hr : l.getD (f + m) default = r at *
        obtain ⟨s, hs⟩ : ∃ s : Int, s = if r.1 < (p : Int) * 128 then (p : Int) * 128 else r.1 := ⟨_, rfl⟩
        obtain ⟨e, he⟩ : ∃ e : Int, e = if (p : Int) * 128 + 127 < r.2.1 then (p : Int) * 128 + 127 else r.2.1 := ⟨_, rfl⟩
        have hs2 : (p : Int) * 128 ≤ s ∧ r.1 ≤ s ∧ (s = (p : Int) * 128 ∨ s = r.1) := by rw [hs]; split <;> omega
        have he2 : e ≤ (p : Int) * 128 + 127 ∧ e ≤ r.2.1 ∧ (e = (p : Int) * 128 + 127 ∨ e = r.2.1) := by rw [he]; split <;> omega
        refine pwp_up (e + 1 - s).toNat (fun q σ' h'' => ∃ g' : Nat → Int, Own h h'' b8 ((blk fun _ => 0).map (.int .i64)) ∧ Own h h'' b10 ((blk g').map (.int .i64)) ∧ h.le h'' ∧ σ' 0 = .list false 3 l.length (l.flatMap r3) ∧ σ' 2 = .int .i64 ((f + m : Nat) : Int) ∧ σ' 8 = .ptr b8 0 ∧ σ' 10 = .ptr b10 0 ∧ σ' 11 = .int .i64 ((p : Int) * 128) ∧ (∃ fr, σ' 12 = .fptr fr [.int .i64 r.1, .int .i64 r.2.1, .int .i64 r.2.2] 0) ∧ σ' 13 = .int .i64 (s + q) ∧
          ∀ j, j < 128 → g' j = if s ≤ (p : Int) * 128 + j ∧ (p : Int) * 128 + j < s + q then r.2.2 else g j) ?_ ?_
        · refine ⟨g, o8, o10, lh, by simp [put, s0], by simp [put, s2], by simp [put, s8], by simp [put, s10], by simp [put, s11], ⟨_, rfl⟩, by rw [hs]; simp [put], fun j hj => ?_⟩
          rw [if_neg (by omega)]
        · rintro q σ' h'' K2 hq ⟨g', t8o, t10o, tlh, t0, t2, t8, t10, t11, ⟨fr', t12⟩, t13, hg'⟩ next2
          have tg10 := t10o.2
          have tg8 := t8o.2
          try simp only [t11, t12, t13, ha, ha1, pm, pmW, pmB, ft, ↓reduceIte, reduceCtorEq, nE, nA, nM, nD, nL, iL, iT, iE, iN, iC]
          rw [← he]
          by_cases hqe : s + (q : Int) ≤ e
          · have hsub : IntKind.i64.wrap (s + (q : Int) - (p : Int) * 128) = s + (q : Int) - (p : Int) * 128 := wrap_in (by omega) (by omega)
            obtain ⟨j0, hj0⟩ : ∃ j0 : Nat, (j0 : Int) = s + (q : Int) - (p : Int) * 128 := ⟨(s + (q : Int) - (p : Int) * 128).toNat, by omega⟩
            have hj128 : j0 < 128 := by omega
            have hj128' : (j0 : Int) < 128 := by omega
            have hsub : IntKind.i64.wrap (s + (q : Int) - (p : Int) * 128) = (j0 : Int) := by rw [wrap_in (by omega) (by omega)]; omega
            have hw2 := fun x => wr_map (PV.int .i64) x (blk g') (i := j0) (by rw [blk_len]; omega)
            try simp only [hqe, t10, t11, t12, t13, hsub, hj128, hj128', Nat.mul_one, tg10, blk_cells, hw2, pm, pmW, pmB, ft, ↓reduceIte, reduceCtorEq, nE, nA, nM, nD, nL, iL, iT, iE, iN, iC]
            refine ⟨by omega, ?_⟩
            rw [wrap_in (by omega) (by omega)]
            refine next2 (by omega) _ _ ⟨fun i => if i = j0 then r.2.2 else g' i, t8o.other (Ne.symm hne), ?_, t10o.le tlh, by simp [put, t0], by simp [put, t2], by simp [put, t8], by simp [put, t10], by simp [put, t11], ⟨fr', by simp [put, t12]⟩, by simp [put]; omega, fun j hj => ?_⟩
            · rw [blk_set _ hj128]; exact t10o.set
            · dsimp only
              by_cases e1 : j = j0
              · rw [if_pos e1, if_pos (by omega)]
              · rw [if_neg e1, hg' j hj]
                by_cases e2 : s ≤ (p : Int) * 128 + j ∧ (p : Int) * 128 + j < s + q
                · rw [if_pos e2, if_pos (by omega)]
                · rw [if_neg e2, if_neg (by omega)]
          · have hfin : ∀ j, j < 128 → g' j = getR (l.take (f + m + 1)) n ((p : Int) * 128 + j) := fun j hj => by
              rw [hg' j hj, List.take_succ_eq_append_getElem hlt, getR_snoc, hg j hj]
              · have hrr : l[f + m] = r := by rw [← hr]; simp [List.getD, hlt]
                rw [hrr]
                by_cases e2 : r.1 ≤ (p : Int) * 128 + j ∧ (p : Int) * 128 + j ≤ r.2.1
                · rw [if_pos e2, if_pos (by omega)]
                · rw [if_neg e2, if_neg (by omega)]
              · intro q1 q2 x hx
                have hrr : l[f + m] = r := by rw [← hr]; simp [List.getD, hlt]
                rw [hrr] at q1 q2
                obtain ⟨i, h1, h2⟩ := List.mem_iff_getElem.1 hx
                simp only [List.length_take] at h1
                have := m2 i (f + m) (by omega) hlt
                simp only [List.getElem_take] at h2
                rw [hr, List.getD, List.getElem?_eq_getElem (by omega), Option.getD_some, h2] at this
                omega
            try simp only [hqe, t11, t12, ha, pm, pmW, pmB, ft, ↓reduceIte, reduceCtorEq, nE, nA, nM, nD, nL, iL, iT, iE, iN, iC]
            by_cases hbr : (p : Int) * 128 + 128 ≤ r.2.1
            · try simp only [hbr, t2, t8, t10, tg10, tg8, blk_cells, take_blk, wr_blk, pm, pmW, pmB, ft, ↓reduceIte, reduceCtorEq, nE, nA, nM, nD, nL, iL, iT, iE, iN, iC]
              refine fin2 g' (f + m + 1) (f + m) σ' h'' (by omega) (by omega) hfin (fun i h1 h2 => ?_) hbb t8o tlh
              have := m2 (f + m) i (by omega) h2
              rw [hr] at this; omega
            · try simp only [hbr, t2, pm, pmW, pmB, ft, ↓reduceIte, reduceCtorEq, nE, nA, nM, nD, nL, iL, iT, iE, iN, iC]
              rw [wrap_in (by omega) (by omega)]
              refine next (by omega) _ _ ⟨g', t8o, t10o, tlh, by simp [put, t0], by simp [put]; omega, by simp [put, t8], by simp [put, t10], by simp [put, t11], hfin, fun i hi => ?_⟩
              rcases Nat.lt_or_ge i (f + m) with q3 | q3
              · exact hbb i q3
              · have : i = f + m := by omega
                subst this; rw [hr]; omega
      · try simp only [s0, s2, s11, hlt, hlt2, x0, ha, hlo, s8, s10, g10, g8, blk_cells, take_blk, wr_blk, pm, pmW, pmB, ft, ↓reduceIte, reduceCtorEq, nE, nA, nM, nD, nL, iL, iT, iE, iN, iC]
        refine fin2 g (f + m) (f + m) σ h' (by omega) (by omega) hg (fun i h1 h2 => ?_) hbb o8 lh
        rcases Nat.lt_or_ge (f + m) i with q | q
        · have := m2 _ _ q h2; omega
        · have : i = f + m := by omega
          subst this; omega
    · have hge : ¬ ((f + m : Nat) : Int) < l.length := by omega
      try simp only [s0, s2, s11, hlt, hge, s8, s10, g10, g8, blk_cells, take_blk, wr_blk, pm, pmW, pmB, ft, ↓reduceIte, reduceCtorEq, nE, nA, nM, nD, nL, iL, iT, iE, iN, iC]
      exact fin2 g (f + m) (f + m) σ h' (by omega) (by omega) hg (fun i h1 h2 => by omega) hbb o8 lh
end Go.Proofs.YtcgaphmndnmfdaaGreat

/-
  Tables of codes' values: which block a part has, and the table itself: the package trie.
  Conditions: none but those that each sentence tells.
-/
namespace Go.Proofs.YtcgaphmndnmfdaaGreat
open Go.Pm
open Nat renaming reduceEqDiff → nE, reduceAdd → nA, reduceMul → nM, reduceLeDiff → nD, reduceLT → nL
open Int renaming reduceLE → iL, reduceLT → iT, reduceEq → iE, reduceToNat → iN, cast_ofNat_Int → iC
set_option maxRecDepth 100000
set_option linter.unusedSimpArgs false
set_option linter.unusedVariables false

theorem ceq_ints : ∀ (xs ys : List Int), xs.length = ys.length → ceq (xs.map (.int .i64)) (ys.map (.int .i64)) = some (decide (xs = ys))
  | [], [], _ => rfl
  | x :: xs, y :: ys, e => by
    simp only [List.map_cons, ceq, if_true, ceq_ints xs ys (by simpa using e), Option.map_some, List.cons.injEq, Bool.decide_and]
def ci (g : Nat → Int) : List PV := (blk g).map (.int .i64)
theorem ci_len (g : Nat → Int) : (ci g).length = 128 := blk_cells g
theorem old_ci (g : Nat → Int) : olds (ci g) = ci g := by unfold ci; exact olds_ints _
theorem wrz (g : Nat → Int) : wr (List.replicate 128 (PV.int .i64 0)) 0 (ci g) = ci g := by rw [zero_blk]; exact wr_blk _ _
theorem ci_eq (g g' : Nat → Int) : ceq (ci g) (ci g') = some (decide (blk g = blk g')) := ceq_ints _ _ (by rw [blk_len, blk_len])
theorem ci_take (g : Nat → Int) : (ci g).take 128 = ci g := take_blk g
theorem add (g : Nat → Int) (bs : List (Nat → Int)) (hn : bs.length ≤ 100000) (bt : Nat) (fc sc x y : PV) (h0 h : Heap) (ht : h.f bt = some [fc, sc, x, y]) (hbt0 : h0.f bt = none) (ac : Acc h0 h sc 128 bs.length (bs.flatMap ci)) (lh : h0.le h) (hd : blkOf sc ≠ some bt)
    {K : PV → Heap → Prop} (k1 : ∀ i, i < bs.length → blk (bs.getD i default) = blk g → K (.int .i64 i) h)
    (k2 : ∀ v' h'', Acc h0 h'' v' 128 (bs.length + 1) ((bs ++ [g]).flatMap ci) → h0.le h'' → h''.f bt = some [fc, v', x, y] → blkOf v' ≠ some bt → (∀ z cs, h.f z = some cs → z ≠ bt → blkOf sc ≠ some z → h''.f z = some cs ∧ blkOf v' ≠ some z) → K (.int .i64 bs.length) h'') :
    CanP Tryz.prog 57 [.ptr bt 0, .agg (ci g)] h K := by
  refine e57 rfl ?_
  have hsc : lenK (some 1) sc = fun (K : Kt) (h : Heap) => K (.int .i64 bs.length) h := by
    funext K h
    rcases ac.live with ⟨rfl, e, _⟩ | ⟨b2, rfl, _, _, _⟩
    · simp [lenK, e]
    · simp [lenK]
  have hold : PV.old sc = sc := by
    rcases ac.live with ⟨rfl, e, _⟩ | ⟨b2, rfl, _, _, _⟩ <;> rfl
  have hfl : ∀ v : PV, (v = .nils ∨ ∃ b n, v = .buf b 128 0 n) → flat v = some [v] := fun v e => by
    rcases e with rfl | ⟨b, n, rfl⟩ <;> rfl
  try simp only [c57, r57_0, r57_1, r57_2, r57_3, r57_4, r57_5, r57_6, r57_7, r57_8, old_ci, ht, hsc, hold, pm, pmW, pmB, ft, ↓reduceIte, reduceCtorEq, nE, nA, nM, nD, nL, iL, iT, iE, iN, iC]
  refine pwp_up bs.length (fun i σ h' => h' = h ∧ σ 0 = .ptr bt 0 ∧ (∃ fr, σ 3 = .fptr fr (ci g) 0) ∧ σ 10 = .int .i64 bs.length ∧ σ 11 = .int .i64 i) ?_ ?_
  · exact ⟨rfl, rfl, ⟨_, rfl⟩, rfl, rfl⟩
  · rintro i σ h' K' hi ⟨rfl, s0, ⟨fr, s3⟩, s10, s11⟩ next
    try simp only [s10, s11, cdK_dec, pm, pmW, pmB, ft, ↓reduceIte, reduceCtorEq, nE, nA, nM, nD, nL, iL, iT, iE, iN, iC]
    refine ⟨fun hlt => ?_, fun hge => ?_⟩
    · rcases ac.live with ⟨rfl, e, _⟩ | ⟨b2, rfl, a1, a2, a3⟩
      · omega
      · have hx := flat_at ci 128 ci_len bs hlt
        have hx2 : i * 128 + 128 ≤ (bs.flatMap ci).length := by rw [flat_length ci 128 ci_len]; omega
        have hk := k1 i hlt
        generalize bs.getD i default = g' at *
        try simp only [s0, s3, s11, ht, a2, hlt, hx, hx2, old_ci, ci_len, ci_take, ci_eq, Option.some.injEq, false_and, pm, pmW, pmB, ft, ↓reduceIte, reduceCtorEq, nE, nA, nM, nD, nL, iL, iT, iE, iN, iC]
        by_cases hq : blk g' = blk g
        · have hdd := decide_eq_true hq
          try simp only [hdd, pm, pmW, pmB, ft, ↓reduceIte, reduceCtorEq, nE, nA, nM, nD, nL, iL, iT, iE, iN, iC]
          exact finK_rf (hk hq)
        · try simp only [hq, s11, pm, pmW, pmB, ft, ↓reduceIte, reduceCtorEq, nE, nA, nM, nD, nL, iL, iT, iE, iN, iC]
          rw [wrap_in (by omega) (by omega)]
          exact next hlt _ _ ⟨rfl, by simp [put, s0], ⟨fr, by simp [put, s3]⟩, by simp [put, s10], by simp [put]⟩
    · try simp only [s0, s3, ht, hold, ci_len, ci_take, Nat.le_refl, List.length_replicate, wrz, Option.map_some, pm, pmW, pmB, ft, ↓reduceIte, reduceCtorEq, nE, nA, nM, nD, nL, iL, iT, iE, iN, iC]
      refine ac.app lh (by decide) (by rw [ci_len]) (by omega) (by simp only [maxLen]; omega) fun v' h3 a' l' sd => ?_
      have hbt := sd bt _ ht hd
      obtain ⟨b2, rfl, a1, a2, a3⟩ : ∃ b, v' = .buf b 128 0 (bs.length + 1) ∧ h0.f b = none ∧ h3.f b = some (bs.flatMap ci ++ ci g) ∧ (bs.flatMap ci ++ ci g).length = (bs.length + 1) * 128 := by
        rcases a'.live with ⟨_, e, _⟩ | q
        · omega
        · exact q
      have hb3 := hbt.1
      try simp only [s0, hb3, pm, pmW, pmB, ft, ↓reduceIte, reduceCtorEq, nE, nA, nM, nD, nL, iL, iT, iE, iN, iC]
      have hw : IntKind.i64.wrap (((bs.length + 1 : Nat) : Int) - 1) = bs.length := by rw [wrap_in (by omega) (by omega)]; omega
      try simp only [hw, pm, pmW, pmB, ft, ↓reduceIte, reduceCtorEq, nE, nA, nM, nD, nL, iL, iT, iE, iN, iC]
      have hne : b2 ≠ bt := fun e => hbt.2 (by rw [e]; rfl)
      refine finK_rf (k2 (.buf b2 128 0 (bs.length + 1)) _ (Acc.set (by simpa using a') (by simp [blkOf]; exact hne)) (Heap.le_set l' hbt0) (Heap.set_same _ _ _) hbt.2 fun z cs hz hzt hzs => ?_)
      have := sd z cs hz hzs
      exact ⟨by rw [Heap.set_ne _ _ hzt]; exact this.1, this.2⟩
end Go.Proofs.YtcgaphmndnmfdaaGreat

/-
  Tables of codes' values: a table is built, and asked: the package trie.
  Conditions: none but those that each sentence tells.
-/
namespace Go.Proofs.YtcgaphmndnmfdaaGreat
open Go.Pm
open Nat renaming reduceEqDiff → nE, reduceAdd → nA, reduceMul → nM, reduceLeDiff → nD, reduceLT → nL
open Int renaming reduceLE → iL, reduceLT → iT, reduceEq → iE, reduceToNat → iN, cast_ofNat_Int → iC
set_option maxRecDepth 100000
set_option linter.unusedSimpArgs false
set_option linter.unusedVariables false

/-- A table: which block each part has, and the blocks. -/
def tab (fr : Bool) (F : List Int) (bs : List (Nat → Int)) (n : Int) : PV := .fptr fr [.list false 1 8704 (F.map (.int .i64)), .list false 128 bs.length (bs.flatMap ci), .int .i64 n, .bool true] 0
/-- It is the table of these ranges. -/
def Tab (l : List R3) (n : Int) (F : List Int) (bs : List (Nat → Int)) : Prop := F.length = 8704 ∧ bs.length ≤ 8704 ∧ ∀ p, p < 8704 → ∃ q : Nat, F.getD p default = q ∧ q < bs.length ∧ blk (bs.getD q default) = Bk l n p
def gB (l : List R3) (n : Int) (p : Nat) : Nat → Int := fun j => getR l n ((p : Int) * 128 + j)
theorem Bk_eq (l : List R3) (n : Int) (p : Nat) : (Bk l n p).map (PV.int .i64) = ci (gB l n p) := rfl
/-- While it is built. -/
def TS (h h' : Heap) (bt b1 b9 : Nat) (n : Int) (F : List Int) (bs : List (Nat → Int)) (sc : PV) (gl : Nat → Int) : Prop :=
  h'.f bt = some [.buf b1 1 0 8704, sc, .int .i64 n, .bool true] ∧ Own h h' b1 (F.map (.int .i64)) ∧ Acc h h' sc 128 bs.length (bs.flatMap ci) ∧ blkOf sc ≠ some bt ∧ blkOf sc ≠ some b1 ∧ blkOf sc ≠ some b9 ∧ Own h h' b9 (ci gl) ∧ h.le h'
theorem getD_app {α : Type} [Inhabited α] (l m : List α) {i : Nat} (h : i < l.length) : (l ++ m).getD i default = l.getD i default := by
  simp only [List.getD, List.getElem?_append_left h]
def Zs (n : Nat) : List Int := List.replicate n 0
theorem Zs_len (n : Nat) : (Zs n).length = n := by simp [Zs]
theorem rep_Z (n : Nat) : rep n [PV.int .i64 0] = (Zs n).map (.int .i64) := rep_map (PV.int .i64) (0 : Int) n
theorem wrc (g g' : Nat → Int) : wr ((blk g).map (PV.int .i64)) 0 (ci g') = ci g' := wr_blk g g'
theorem old_cis (bs : List (Nat → Int)) : olds (bs.flatMap ci) = bs.flatMap ci := olds_flat _ _ old_ci bs
/-- What 'add' leaves. -/
def AS (g : Nat → Int) (bs : List (Nat → Int)) (bt : Nat) (fc sc x y : PV) (h h' : Heap) (v : PV) (hh : Heap) : Prop :=
  (∃ q : Nat, q < bs.length ∧ blk (bs.getD q default) = blk g ∧ v = .int .i64 q ∧ hh = h') ∨
  (∃ v', Acc h hh v' 128 (bs.length + 1) ((bs ++ [g]).flatMap ci) ∧ h.le hh ∧ hh.f bt = some [fc, v', x, y] ∧ blkOf v' ≠ some bt ∧ (∀ z cs, h'.f z = some cs → z ≠ bt → blkOf sc ≠ some z → hh.f z = some cs ∧ blkOf v' ≠ some z) ∧ v = .int .i64 bs.length)
theorem AS_some (g : Nat → Int) (bs : List (Nat → Int)) (bt : Nat) (fc sc x y : PV) (h h' : Heap) (ht : h'.f bt = some [fc, sc, x, y]) (hbt : h.f bt = none) (ac : Acc h h' sc 128 bs.length (bs.flatMap ci)) (lh : h.le h') (hd : blkOf sc ≠ some bt) : ∃ v hh, AS g bs bt fc sc x y h h' v hh := by
  rcases ac.live with ⟨rfl, e, e2⟩ | ⟨b2, rfl, a1, a2, a3⟩
  · obtain ⟨b0, hb0⟩ := h'.fresh
    have hne : b0 ≠ bt := fun e => by rw [e, ht] at hb0; cases hb0
    have e0 : bs = [] := List.eq_nil_of_length_eq_zero e
    subst e0
    refine ⟨_, (h'.set b0 (ci g)).set bt [fc, .buf b0 128 0 1, x, y], .inr ⟨.buf b0 128 0 1, .inr ⟨b0, rfl, Heap.le_none lh hb0, ?_, ?_⟩, Heap.le_set (Heap.le_set lh (Heap.le_none lh hb0)) hbt, Heap.set_same _ _ _, ?_, fun z cs hz h1 h2 => ⟨?_, ?_⟩, rfl⟩⟩
    · rw [Heap.set_ne _ _ hne, Heap.set_same]; simp
    · simp [ci_len]
    · simp [blkOf]; exact hne
    · have : z ≠ b0 := fun e => by rw [e, hb0] at hz; cases hz
      rw [Heap.set_ne _ _ h1, Heap.set_ne _ _ this]; exact hz
    · have : z ≠ b0 := fun e => by rw [e, hb0] at hz; cases hz
      simp [blkOf]; exact Ne.symm this
  · have hne : b2 ≠ bt := fun e => hd (by rw [e]; rfl)
    refine ⟨_, (h'.set b2 (bs.flatMap ci ++ ci g)).set bt [fc, .buf b2 128 0 (bs.length + 1), x, y], .inr ⟨.buf b2 128 0 (bs.length + 1), .inr ⟨b2, rfl, a1, ?_, ?_⟩, Heap.le_set (Heap.le_set lh a1) hbt, Heap.set_same _ _ _, ?_, fun z cs hz h1 h2 => ⟨?_, ?_⟩, rfl⟩⟩
    · rw [Heap.set_ne _ _ hne, Heap.set_same]; simp
    · simp only [List.flatMap_append, List.length_append, a3]; simp [ci_len, Nat.add_mul]
    · simp [blkOf]; exact hne
    · have : z ≠ b2 := fun e => h2 (by rw [e]; rfl)
      rw [Heap.set_ne _ _ h1, Heap.set_ne _ _ this]; exact hz
    · have : z ≠ b2 := fun e => h2 (by rw [e]; rfl)
      simp [blkOf]; exact Ne.symm this
theorem AS_post {g : Nat → Int} {bs : List (Nat → Int)} {bt b1 b9 : Nat} {n : Int} {F : List Int} {sc : PV} {gl : Nat → Int} {h h' hh : Heap} {v : PV} (h1t : b1 ≠ bt) (h9t : b9 ≠ bt) (ts : TS h h' bt b1 b9 n F bs sc gl) (a : AS g bs bt (.buf b1 1 0 8704) sc (.int .i64 n) (.bool true) h h' v hh) :
    ∃ (q : Nat) (bs' : List (Nat → Int)) (sc' : PV), v = .int .i64 q ∧ TS h hh bt b1 b9 n F bs' sc' gl ∧ q < bs'.length ∧ blk (bs'.getD q default) = blk g ∧ bs.length ≤ bs'.length ∧ bs'.length ≤ bs.length + 1 ∧ ∀ p, p < bs.length → bs'.getD p default = bs.getD p default := by
  rcases a with ⟨q, q1, q2, rfl, rfl⟩ | ⟨v', p1, p2, p3, p4, p5, rfl⟩
  · exact ⟨q, bs, sc, rfl, ts, q1, q2, Nat.le_refl _, by omega, fun _ _ => rfl⟩
  · obtain ⟨t1, o1, ac, d1, d2, d3, o9, lh⟩ := ts
    have z1 := p5 b1 _ o1.2 h1t d2
    have z9 := p5 b9 _ o9.2 h9t d3
    refine ⟨bs.length, bs ++ [g], v', rfl, ⟨p3, ⟨o1.1, z1.1⟩, by simpa using p1, p4, z1.2, z9.2, ⟨o9.1, z9.1⟩, p2⟩, by simp, by simp [List.getD], by simp, by simp, fun p hp => getD_app _ _ hp⟩
theorem Build (fr : Bool) (l : List R3) (ok : mayB (-1) l = true) (hl : l.length ≤ 4096) (n : Int) (h : Heap) {K : PV → Heap → Prop} (k : ∀ F bs, Tab l n F bs → K (.tup [tab true F bs n, .int .i64 0]) h) :
    CanP Tryz.prog 21 [.list fr 3 l.length (l.flatMap r3), .int .i64 n] h K := by
  refine e21 rfl ?_
  try simp only [c21, r21_0, r21_1, r21_2, r21_3, r21_4, r21_5, r21_6, r21_7, r21_8, r21_9, r21_10, r21_11, r21_12, r21_13, r21_14, r21_15, r21_16, r21_17, old_r3, pm, pmW, pmB, ft, ↓reduceIte, reduceCtorEq, nE, nA, nM, nD, nL, iL, iT, iE, iN, iC]
  refine may _ _ ok hl _ ?_
  try simp only [↓rep_Z, pm, pmW, pmB, ft, ↓reduceIte, reduceCtorEq, nE, nA, nM, nD, nL, iL, iT, iE, iN, iC]
  intro bt hbt
  try simp only [↓rep_Z, pm, pmW, pmB, ft, ↓reduceIte, reduceCtorEq, nE, nA, nM, nD, nL, iL, iT, iE, iN, iC]
  refine ⟨by omega, fun b1 hb1 => ?_⟩
  have hne1 : b1 ≠ bt := fun e => by rw [e, Heap.set_same] at hb1; cases hb1
  have hb1' : h.f b1 = none := by rwa [Heap.set_ne _ _ hne1] at hb1
  have hs1 : ∀ (g : Heap) (Y : List PV), (g.set b1 Y).f bt = g.f bt := fun g Y => Heap.set_ne g Y (Ne.symm hne1)
  try simp only [hs1, zero_blk, ↓rep_Z, pm, pmW, pmB, ft, ↓reduceIte, reduceCtorEq, nE, nA, nM, nD, nL, iL, iT, iE, iN, iC]
  intro b9 hb9
  have hne9 : b9 ≠ bt := fun e => by rw [e, Heap.set_same] at hb9; cases hb9
  have hb9a := hb9
  rw [Heap.set_ne _ _ hne9] at hb9a
  have hne91 : b9 ≠ b1 := fun e => by rw [e, Heap.set_same] at hb9a; cases hb9a
  have hb9' : h.f b9 = none := by rwa [Heap.set_ne _ _ hne91, Heap.set_ne _ _ hne9] at hb9a
  try simp only [blk_cells, wr_blk, Nat.le_refl, pm, pmW, pmB, ft, ↓reduceIte, reduceCtorEq, nE, nA, nM, nD, nL, iL, iT, iE, iN, iC]
  refine pwp_up 8704 (fun i σ h' => ∃ F bs sc gl f la, TS h h' bt b1 b9 n F bs sc gl ∧ F.length = 8704 ∧ bs.length ≤ i ∧ σ 0 = .list false 3 l.length (l.flatMap r3) ∧ σ 1 = .int .i64 n ∧ σ 7 = .ptr bt 0 ∧ σ 8 = .int .i64 (f : Nat) ∧ σ 9 = .ptr b9 0 ∧ σ 10 = .int .i64 la ∧ σ 27 = .int .i64 i ∧
    (i = 0 → la = -1) ∧ (0 < i → ∃ q : Nat, la = q ∧ q < bs.length ∧ blk (bs.getD q default) = Bk l n (i - 1) ∧ blk gl = Bk l n (i - 1)) ∧
    (∀ p, p < i → ∃ q : Nat, F.getD p default = q ∧ q < bs.length ∧ blk (bs.getD q default) = Bk l n p) ∧ f ≤ l.length ∧ ∀ j, j < f → (l.getD j default).2.1 < (i : Int) * 128) ?_ ?_
  · refine ⟨Zs 8704, [], .nils, fun _ => 0, 0, -1, ⟨?_, ⟨hb1', ?_⟩, .inl ⟨rfl, rfl, rfl⟩, (fun e => by cases e), (fun e => by cases e), (fun e => by cases e), ⟨hb9', ?_⟩, ?_⟩, Zs_len _, Nat.zero_le _, rfl, rfl, rfl, rfl, rfl, rfl, rfl, fun _ => rfl, fun e => by omega, fun p hp => by omega, Nat.zero_le _, fun j hj => by omega⟩
    · rw [Heap.set_ne _ _ (Ne.symm hne9), Heap.set_same]
    · rw [Heap.set_ne _ _ (Ne.symm hne91), Heap.set_ne _ _ hne1, Heap.set_same]
    · rw [Heap.set_same]; rfl
    · exact Heap.le_set (Heap.le_set (Heap.le_set (Heap.le_set (Heap.le_refl _) hbt) hb1') hbt) hb9'
  · rintro i σ h' K' hi ⟨F, bs, sc, gl, f, la, ts, hF, hbl, s0, s1, s7, s8, s9, s10, s27, la0, laq, hFp, hf, hfb⟩ next
    try simp only [s27, cdK_dec, pm, pmW, pmB, ft, ↓reduceIte, reduceCtorEq, nE, nA, nM, nD, nL, iL, iT, iE, iN, iC]
    refine ⟨fun hlt => ?_, fun hge => ?_⟩
    · have hi4 : i < 8704 := by omega
      try simp only [s27, zero_blk, pm, pmW, pmB, ft, ↓reduceIte, reduceCtorEq, nE, nA, nM, nD, nL, iL, iT, iE, iN, iC]
      intro b12 hb12
      try simp only [s0, s1, s8, pm, pmW, pmB, ft, ↓reduceIte, reduceCtorEq, nE, nA, nM, nD, nL, iL, iT, iE, iN, iC]
      refine filled _ _ ok hl i f n hi4 hf hfb _ fun f' hf' hfb' => ?_
      rw [Bk_eq]
      try simp only [ci_len, Heap.kill_none hb12, old_ci, wrc, s10, pm, pmW, pmB, ft, ↓reduceIte, reduceCtorEq, nE, nA, nM, nD, nL, iL, iT, iE, iN, iC]
      refine ⟨by rw [blk_cells]; omega, ?_⟩
      obtain ⟨t1, ob1, ac, d1, d2, d3, ob9, lh⟩ := id ts
      have g9 := ob9.2
      have gBk : ∀ q, blk (gB l n q) = Bk l n q := fun q => rfl
      have hFs := fun (bs' : List (Nat → Int)) (q : Nat) (hq : q < bs'.length) (hqb : blk (bs'.getD q default) = Bk l n i) (hle : ∀ p, p < bs.length → bs'.getD p default = bs.getD p default) (hlen : bs.length ≤ bs'.length) =>
        (show ∀ p, p < i + 1 → ∃ q' : Nat, (F.set i (q : Int)).getD p default = q' ∧ q' < bs'.length ∧ blk (bs'.getD q' default) = Bk l n p from fun p hp => by
          by_cases e : p = i
          · subst e; exact ⟨q, by simp [List.getD, hF, hi4], hq, hqb⟩
          · obtain ⟨q', w1, w2, w3⟩ := hFp p (by omega)
            refine ⟨q', ?_, by omega, by rw [hle q' w2]; exact w3⟩
            rw [← w1]; simp only [List.getD, List.getElem?_set_ne (Ne.symm e)])
      have hw1 := fun x => wr_map (PV.int .i64) x F (i := i) (by omega)
      have hml : (F.map (PV.int .i64)).length = 8704 := by rw [List.length_map, hF]
      have hi5 : (i : Int) < 8704 := by omega
      have hwi : IntKind.i64.wrap ((i : Int) + 1) = (i : Int) + 1 := wrap_in (by omega) (by omega)
      by_cases hsk : 0 < i ∧ blk (gB l n i) = blk gl
      · obtain ⟨q, q1, q2, q3, q4⟩ := laq hsk.1
        have hn : ¬ la < 0 := by omega
        have hd := decide_eq_true hsk.2
        have hb1f := ob1.2
        try simp only [hn, s7, s9, s10, s27, t1, g9, ci_len, ci_take, ci_eq, old_ci, Option.some.injEq, false_and, hd, hi4, hi5, Nat.mul_one, hb1f, hml, hw1, hwi, pm, pmW, pmB, ft, ↓reduceIte, reduceCtorEq, nE, nA, nM, nD, nL, iL, iT, iE, iN, iC]
        refine ⟨by omega, ?_⟩
        subst q1
        refine next hi4 _ _ ⟨F.set i (q : Int), bs, sc, gl, f', q, ⟨?_, ob1.set, ac.set d2, d1, d2, d3, ob9.other (Ne.symm hne91), ob1.le lh⟩, by rw [List.length_set]; exact hF, by omega, by simp [put, s0], by simp [put, s1], by simp [put, s7], by simp [put], by simp [put, s9], by simp [put, s10], by simp [put], fun e => by omega, fun _ => ⟨q, rfl, q2, ?_, ?_⟩, hFs bs q q2 ?_ (fun _ _ => rfl) (Nat.le_refl _), hf', fun j hj => by have := hfb' j hj; simpa using this⟩
        · rw [Heap.set_ne _ _ (Ne.symm hne1)]; exact t1
        · rw [q3, ← q4, ← hsk.2]; rfl
        · rw [← hsk.2]; rfl
        · rw [q3, ← q4, ← hsk.2]; rfl
      · by_cases e0 : i = 0
        case' pos =>
          have hla : la = -1 := la0 e0
          have hn : la < 0 := by omega
          try simp only [hn, s7, s9, s10, s27, t1, ci_len, ci_take, old_ci, pm, pmW, pmB, ft, ↓reduceIte, reduceCtorEq, nE, nA, nM, nD, nL, iL, iT, iE, iN, iC]
        case' neg =>
          have hn : ¬ la < 0 := by obtain ⟨q, q1, _⟩ := laq (by omega); omega
          have hd : decide (blk (gB l n i) = blk gl) = false := decide_eq_false fun e => hsk ⟨by omega, e⟩
          try simp only [hn, s7, s9, s10, s27, t1, g9, ci_len, ci_take, ci_eq, old_ci, Option.some.injEq, false_and, hd, pm, pmW, pmB, ft, ↓reduceIte, reduceCtorEq, nE, nA, nM, nD, nL, iL, iT, iE, iN, iC]
        all_goals
          refine ⟨AS (gB l n i) bs bt (.buf b1 1 0 8704) sc (.int .i64 n) (.bool true) h h', AS_some _ _ _ _ _ _ _ _ _ t1 hbt ac lh d1, add _ _ (by omega) bt _ sc _ _ h h' t1 hbt ac lh d1 (fun q w1 w2 => .inl ⟨q, w1, w2, rfl, rfl⟩) (fun v' hh p1 p2 p3 p4 p5 => .inr ⟨v', p1, p2, p3, p4, p5, rfl⟩), fun v hh hS => ?_⟩
          obtain ⟨q, bs', sc', rfl, ts', w1, w2, w3, w4, w5⟩ := AS_post hne1 hne9 ts hS
          obtain ⟨u1, uo1, uac, ud1, ud2, ud3, uo9, ulh⟩ := ts'
          have u9 := uo9.2
          have hs9 : ∀ (g : Heap) (Y : List PV), (g.set b9 Y).f bt = g.f bt := fun g Y => Heap.set_ne g Y (Ne.symm hne9)
          have hs91 : ∀ (g : Heap) (Y : List PV), (g.set b9 Y).f b1 = g.f b1 := fun g Y => Heap.set_ne g Y (Ne.symm hne91)
          have uo12 := uo1.2
          try simp only [s7, s9, s27, u1, u9, hs9, hs91, uo12, ci_len, wrc, hi4, hi5, Nat.mul_one, hml, hw1, hwi, pm, pmW, pmB, ft, ↓reduceIte, reduceCtorEq, nE, nA, nM, nD, nL, iL, iT, iE, iN, iC]
          refine ⟨by omega, next hi4 _ _ ⟨F.set i (q : Int), bs', sc', gB l n i, f', q, ⟨?_, (uo1.other hne91).set, (uac.set ud3).set ud2, ud1, ud2, ud3, uo9.set.other (Ne.symm hne91), Heap.le_set (Heap.le_set ulh hb9') hb1'⟩, by rw [List.length_set]; exact hF, by omega, by simp [put, s0], by simp [put, s1], by simp [put, s7], by simp [put], by simp [put, s9], by simp [put], by simp [put], fun e => by omega, fun _ => ⟨q, rfl, w1, w2, rfl⟩, hFs bs' q w1 w2 w5 w3, hf', fun j hj => by have := hfb' j hj; simpa using this⟩⟩
          rw [Heap.set_ne _ _ (Ne.symm hne1), Heap.set_ne _ _ (Ne.symm hne9)]; exact u1
    · have hil : i = 8704 := by omega
      subst hil
      obtain ⟨t1, ob1, ac, d1, d2, d3, ob9, lh⟩ := ts
      obtain ⟨q0, _, q1, _, _⟩ := laq (by omega)
      rcases ac.live with ⟨rfl, e, _⟩ | ⟨b2, rfl, a1, a2, a3⟩
      · omega
      · have hb2 : b2 ≠ bt := fun e => d1 (by rw [e]; rfl)
        have hb21 : b2 ≠ b1 := fun e => d2 (by rw [e]; rfl)
        have f1 : frzC h' (.ptr bt 0) 0 = some (bt, b1, [.list false 1 8704 (F.map (.int .i64)), .buf b2 128 0 bs.length, .int .i64 n, .bool true]) := by
          have ht : (F.map (PV.int .i64)).take 8704 = F.map (.int .i64) := List.take_of_length_le (by simp [hF])
          simp [frzC, t1, frzV, ob1.2, hF, ht, olds_ints, hne1]
        have f2 : frzC ((h'.kill b1).set bt [.list false 1 8704 (F.map (.int .i64)), .buf b2 128 0 bs.length, .int .i64 n, .bool true]) (.ptr bt 0) 1 = some (bt, b2, [.list false 1 8704 (F.map (.int .i64)), .list false 128 bs.length (bs.flatMap ci), .int .i64 n, .bool true]) := by
          have ht : (bs.flatMap ci).take (bs.length * 128) = bs.flatMap ci := List.take_of_length_le (by omega)
          have hg : ((h'.kill b1).set bt [.list false 1 8704 (F.map (.int .i64)), .buf b2 128 0 bs.length, .int .i64 n, .bool true]).f b2 = some (bs.flatMap ci) := by
            rw [Heap.set_ne _ _ hb2, Heap.kill_ne _ hb21]; exact a2
          simp [frzC, Heap.set_same, frzV, hg, a3, ht, old_cis, hb2]
        try simp only [s7, f1, f2, pm, pmW, pmB, ft, ↓reduceIte, reduceCtorEq, nE, nA, nM, nD, nL, iL, iT, iE, iN, iC]
        have lh2 : h.le ((((h'.kill b1).set bt [.list false 1 8704 (F.map (.int .i64)), .buf b2 128 0 bs.length, .int .i64 n, .bool true]).kill b2).set bt [.list false 1 8704 (F.map (.int .i64)), .list false 128 bs.length (bs.flatMap ci), .int .i64 n, .bool true]) :=
          Heap.le_set (Heap.le_kill (Heap.le_set (Heap.le_kill lh ob1.1) hbt) a1) hbt
        have wk := Wk.ptr (off := 0) lh2 hbt (Heap.set_same _ _ _) hbt
        have et : PV.fptr true (olds [.list false 1 8704 (F.map (.int .i64)), .list false 128 bs.length (bs.flatMap ci), .int .i64 n, .bool true]) 0 = tab true F bs n := by
          simp [tab, olds, PV.old, olds_ints, old_cis]
        rw [et] at wk
        exact finK_wk (Wk.tup (us := [tab true F bs n, .int .i64 0]) lh2 ⟨wk, Wk.drop _ lh2, trivial⟩) (k F bs ⟨hF, hbl, hFp⟩)
end Go.Proofs.YtcgaphmndnmfdaaGreat

/-
  A table of codes' values is asked: the package trie.
  Conditions: none but those that each sentence tells.
-/
namespace Go.Proofs.YtcgaphmndnmfdaaGreat
open Go.Pm
open Nat renaming reduceEqDiff → nE, reduceAdd → nA, reduceMul → nM, reduceLeDiff → nD, reduceLT → nL
open Int renaming reduceLE → iL, reduceLT → iT, reduceEq → iE, reduceToNat → iN, cast_ofNat_Int → iC
set_option maxRecDepth 100000
set_option linter.unusedSimpArgs false
set_option linter.unusedVariables false

theorem and127 (c : Int) (h1 : 0 ≤ c) (h2 : c ≤ 1114111) : IntKind.i64.wrap (BitVec.ofInt IntKind.i64.bits c &&& BitVec.ofInt IntKind.i64.bits 127).toNat = ((c.toNat % 128 : Nat) : Int) := by
  have e : (BitVec.ofInt IntKind.i64.bits c &&& BitVec.ofInt IntKind.i64.bits 127).toNat = c.toNat % 128 := by
    show (BitVec.ofInt 64 c &&& BitVec.ofInt 64 127).toNat = c.toNat % 128
    rw [BitVec.toNat_and]
    have a1 : (BitVec.ofInt 64 c).toNat = c.toNat := by rw [BitVec.toNat_ofInt]; omega
    have a2 : (BitVec.ofInt 64 127).toNat = 2 ^ 7 - 1 := by rfl
    rw [a1, a2, Nat.and_two_pow_sub_one_eq_mod]
  rw [e, wrap_in (by omega) (by omega)]
theorem at_ (fr : Bool) (l : List R3) (n : Int) (F : List Int) (bs : List (Nat → Int)) (T : Tab l n F bs) (c : Int) (h1 : 0 ≤ c) (h2 : c ≤ 1114111) (h : Heap) {K : PV → Heap → Prop} (k : K (.int .i64 (getR l n c)) h) :
    CanP Tryz.prog 119 [tab fr F bs n, .int .i64 c] h K := by
  refine e119 rfl ?_
  obtain ⟨hF, hb, hT⟩ := T
  have hp : c.toNat / 128 < 8704 := by omega
  obtain ⟨q, q1, q2, q3⟩ := hT _ hp
  have e3 : c.fdiv (2 ^ (min 7 IntKind.i64.bits)) = ((c.toNat / 128 : Nat) : Int) := by
    rw [show (2 : Int) ^ (min 7 IntKind.i64.bits) = 128 from rfl, Int.fdiv_eq_ediv_of_nonneg _ (by omega)]; omega
  have e4 := and127 c h1 h2
  have hj : c.toNat % 128 < 128 := Nat.mod_lt _ (by omega)
  have hj2 : ((c.toNat % 128 : Nat) : Int) < 128 := by omega
  have hx := getm (PV.int .i64) F (i := c.toNat / 128) (by omega)
  rw [q1] at hx
  have hy := flat_get ci 128 ci_len bs q2 hj
  have hz : (ci (bs.getD q default))[c.toNat % 128]? = some (.int .i64 (getR l n c)) := by
    have := getm (PV.int .i64) (blk (bs.getD q default)) (i := c.toNat % 128) (by rw [blk_len]; exact hj)
    rw [q3, Bk, blk_get _ hj] at this
    rw [show ci (bs.getD q default) = (blk (bs.getD q default)).map (PV.int .i64) from rfl, q3, Bk]
    rw [this]
    congr 3; omega
  rw [hz] at hy
  have hp2 : ((c.toNat / 128 : Nat) : Int) < 8704 := by omega
  try simp only [c119, r119_0, r119_1, tab, olds_ints, old_cis, e3, e4, hx, hp, hp2, Nat.mul_one, q2, hj, hj2, hy, pm, pmW, pmB, ft, ↓reduceIte, reduceCtorEq, nE, nA, nM, nD, nL, iL, iT, iE, iN, iC]
  exact finK_le (Heap.le_refl _) k
def getT (l : List R3) (n c : Int) : Int := if 0 ≤ c ∧ c ≤ 1114111 then getR l n c else n
theorem has (fr : Bool) (F : List Int) (bs : List (Nat → Int)) (n c : Int) (h : Heap) {K : PV → Heap → Prop} (k : K (.bool (decide (0 ≤ c ∧ c ≤ 1114111))) h) : CanP Tryz.prog 118 [tab fr F bs n, .int .i64 c] h K := by
  refine e118 rfl ?_
  try simp only [c118, r118_0, r118_1, tab, pm, pmW, pmB, ft, ↓reduceIte, reduceCtorEq, nE, nA, nM, nD, nL, iL, iT, iE, iN, iC]
  by_cases h1 : 0 ≤ c
  · try simp only [h1, pm, pmW, pmB, ft, ↓reduceIte, reduceCtorEq, nE, nA, nM, nD, nL, iL, iT, iE, iN, iC]
    exact finK_le (Heap.le_refl _) (by simpa [h1] using k)
  · try simp only [h1, pm, pmW, pmB, ft, ↓reduceIte, reduceCtorEq, nE, nA, nM, nD, nL, iL, iT, iE, iN, iC]
    exact finK_le (Heap.le_refl _) (by simpa [h1] using k)
theorem old_tab (fr : Bool) (F : List Int) (bs : List (Nat → Int)) (n : Int) : PV.old (tab fr F bs n) = tab false F bs n := by simp [tab, olds, PV.old, olds_ints, old_cis]
theorem Get (fr : Bool) (l : List R3) (n : Int) (F : List Int) (bs : List (Nat → Int)) (T : Tab l n F bs) (c : Int) (h : Heap) {K : PV → Heap → Prop} (k : K (.int .i64 (getT l n c)) h) :
    CanP Tryz.prog 87 [tab fr F bs n, .int .i64 c] h K := by
  refine e87 rfl ?_
  try simp only [c87, r87_0, r87_1, r87_2, r87_3, r87_4, r87_5, old_tab, pm, pmW, pmB, ft, ↓reduceIte, reduceCtorEq, nE, nA, nM, nD, nL, iL, iT, iE, iN, iC]
  refine has _ _ _ _ _ _ ?_
  by_cases h1 : 0 ≤ c ∧ c ≤ 1114111
  · rw [getT, if_pos h1] at k
    have hd := decide_eq_true h1
    try simp only [hd, tab, pm, pmW, pmB, ft, ↓reduceIte, reduceCtorEq, nE, nA, nM, nD, nL, iL, iT, iE, iN, iC]
    refine at_ false l n F bs T c h1.1 h1.2 _ ?_
    try simp only [pm, pmW, pmB, ft, ↓reduceIte, reduceCtorEq, nE, nA, nM, nD, nL, iL, iT, iE, iN, iC]
    exact finK_le (Heap.le_refl _) k
  · rw [getT, if_neg h1] at k
    have hd := decide_eq_false h1
    try simp only [hd, tab, pm, pmW, pmB, ft, ↓reduceIte, reduceCtorEq, nE, nA, nM, nD, nL, iL, iT, iE, iN, iC]
    exact finK_le (Heap.le_refl _) k
end Go.Proofs.YtcgaphmndnmfdaaGreat
