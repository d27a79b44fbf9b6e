/-
  Tables of codes' values: a table is built, and asked: the package trie.
  Conditions: none but those that each sentence tells.
-/
import Derived.Test.YtjabiegaeflhjaaTrie2
namespace Go.Proofs.Ytjabiegaeflhjaa
open Go.Pm
set_option maxRecDepth 100000
set_option linter.unusedSimpArgs false
set_option linter.unusedVariables false

/-- A table: which block each part has, and the blocks. -/
def tab (fr : Bool) (F : List Int) (bs : List (Nat → Int)) (n : Int) : PV := .fptr fr [.list false 1 8704 (F.map (.int .i64)), .list false 128 bs.length (bs.flatMap ci), .int .i64 n, .bool true] 0
/-- It is the table of these ranges. -/
def Tab (l : List R3) (n : Int) (F : List Int) (bs : List (Nat → Int)) : Prop := F.length = 8704 ∧ bs.length ≤ 8704 ∧ ∀ p, p < 8704 → ∃ q : Nat, F.getD p default = q ∧ q < bs.length ∧ blk (bs.getD q default) = Bk l n p
def gB (l : List R3) (n : Int) (p : Nat) : Nat → Int := fun j => getR l n ((p : Int) * 128 + j)
theorem Bk_eq (l : List R3) (n : Int) (p : Nat) : (Bk l n p).map (PV.int .i64) = ci (gB l n p) := rfl
/-- While it is built. -/
def TS (h h' : Heap) (bt b1 b9 : Nat) (n : Int) (F : List Int) (bs : List (Nat → Int)) (sc : PV) (gl : Nat → Int) : Prop :=
  h'.f bt = some [.buf b1 1 0 8704, sc, .int .i64 n, .bool true] ∧ Own h h' b1 (F.map (.int .i64)) ∧ Acc h h' sc 128 bs.length (bs.flatMap ci) ∧ blkOf sc ≠ some bt ∧ blkOf sc ≠ some b1 ∧ blkOf sc ≠ some b9 ∧ Own h h' b9 (ci gl) ∧ h.le h'
theorem getD_app {α : Type} [Inhabited α] (l m : List α) {i : Nat} (h : i < l.length) : (l ++ m).getD i default = l.getD i default := by
  simp only [List.getD, List.getElem?_append_left h]
def Zs (n : Nat) : List Int := List.replicate n 0
theorem Zs_len (n : Nat) : (Zs n).length = n := by simp [Zs]
theorem rep_Z (n : Nat) : rep n [PV.int .i64 0] = (Zs n).map (.int .i64) := rep_map (PV.int .i64) (0 : Int) n
theorem wrc (g g' : Nat → Int) : wr ((blk g).map (PV.int .i64)) 0 (ci g') = ci g' := wr_blk g g'
theorem old_cis (bs : List (Nat → Int)) : olds (bs.flatMap ci) = bs.flatMap ci := olds_flat _ _ old_ci bs
/-- What 'add' leaves. -/
def AS (g : Nat → Int) (bs : List (Nat → Int)) (bt : Nat) (fc sc x y : PV) (h h' : Heap) (v : PV) (hh : Heap) : Prop :=
  (∃ q : Nat, q < bs.length ∧ blk (bs.getD q default) = blk g ∧ v = .int .i64 q ∧ hh = h') ∨
  (∃ v', Acc h hh v' 128 (bs.length + 1) ((bs ++ [g]).flatMap ci) ∧ h.le hh ∧ hh.f bt = some [fc, v', x, y] ∧ blkOf v' ≠ some bt ∧ (∀ z cs, h'.f z = some cs → z ≠ bt → blkOf sc ≠ some z → hh.f z = some cs ∧ blkOf v' ≠ some z) ∧ v = .int .i64 bs.length)
theorem AS_some (g : Nat → Int) (bs : List (Nat → Int)) (bt : Nat) (fc sc x y : PV) (h h' : Heap) (ht : h'.f bt = some [fc, sc, x, y]) (hbt : h.f bt = none) (ac : Acc h h' sc 128 bs.length (bs.flatMap ci)) (lh : h.le h') (hd : blkOf sc ≠ some bt) : ∃ v hh, AS g bs bt fc sc x y h h' v hh := by
  rcases ac.live with ⟨rfl, e, e2⟩ | ⟨b2, rfl, a1, a2, a3⟩
  · obtain ⟨b0, hb0⟩ := h'.fresh
    have hne : b0 ≠ bt := fun e => by rw [e, ht] at hb0; cases hb0
    have e0 : bs = [] := List.eq_nil_of_length_eq_zero e
    subst e0
    refine ⟨_, (h'.set b0 (ci g)).set bt [fc, .buf b0 128 0 1, x, y], .inr ⟨.buf b0 128 0 1, .inr ⟨b0, rfl, Heap.le_none lh hb0, ?_, ?_⟩, Heap.le_set (Heap.le_set lh (Heap.le_none lh hb0)) hbt, Heap.set_same _ _ _, ?_, fun z cs hz h1 h2 => ⟨?_, ?_⟩, rfl⟩⟩
    · rw [Heap.set_ne _ _ hne, Heap.set_same]; simp
    · simp [ci_len]
    · simp [blkOf]; exact hne
    · have : z ≠ b0 := fun e => by rw [e, hb0] at hz; cases hz
      rw [Heap.set_ne _ _ h1, Heap.set_ne _ _ this]; exact hz
    · have : z ≠ b0 := fun e => by rw [e, hb0] at hz; cases hz
      simp [blkOf]; exact Ne.symm this
  · have hne : b2 ≠ bt := fun e => hd (by rw [e]; rfl)
    refine ⟨_, (h'.set b2 (bs.flatMap ci ++ ci g)).set bt [fc, .buf b2 128 0 (bs.length + 1), x, y], .inr ⟨.buf b2 128 0 (bs.length + 1), .inr ⟨b2, rfl, a1, ?_, ?_⟩, Heap.le_set (Heap.le_set lh a1) hbt, Heap.set_same _ _ _, ?_, fun z cs hz h1 h2 => ⟨?_, ?_⟩, rfl⟩⟩
    · rw [Heap.set_ne _ _ hne, Heap.set_same]; simp
    · simp only [List.flatMap_append, List.length_append, a3]; simp [ci_len, Nat.add_mul]
    · simp [blkOf]; exact hne
    · have : z ≠ b2 := fun e => h2 (by rw [e]; rfl)
      rw [Heap.set_ne _ _ h1, Heap.set_ne _ _ this]; exact hz
    · have : z ≠ b2 := fun e => h2 (by rw [e]; rfl)
      simp [blkOf]; exact Ne.symm this
theorem AS_post {g : Nat → Int} {bs : List (Nat → Int)} {bt b1 b9 : Nat} {n : Int} {F : List Int} {sc : PV} {gl : Nat → Int} {h h' hh : Heap} {v : PV} (h1t : b1 ≠ bt) (h9t : b9 ≠ bt) (ts : TS h h' bt b1 b9 n F bs sc gl) (a : AS g bs bt (.buf b1 1 0 8704) sc (.int .i64 n) (.bool true) h h' v hh) :
    ∃ (q : Nat) (bs' : List (Nat → Int)) (sc' : PV), v = .int .i64 q ∧ TS h hh bt b1 b9 n F bs' sc' gl ∧ q < bs'.length ∧ blk (bs'.getD q default) = blk g ∧ bs.length ≤ bs'.length ∧ bs'.length ≤ bs.length + 1 ∧ ∀ p, p < bs.length → bs'.getD p default = bs.getD p default := by
  rcases a with ⟨q, q1, q2, rfl, rfl⟩ | ⟨v', p1, p2, p3, p4, p5, rfl⟩
  · exact ⟨q, bs, sc, rfl, ts, q1, q2, Nat.le_refl _, by omega, fun _ _ => rfl⟩
  · obtain ⟨t1, o1, ac, d1, d2, d3, o9, lh⟩ := ts
    have z1 := p5 b1 _ o1.2 h1t d2
    have z9 := p5 b9 _ o9.2 h9t d3
    refine ⟨bs.length, bs ++ [g], v', rfl, ⟨p3, ⟨o1.1, z1.1⟩, by simpa using p1, p4, z1.2, z9.2, ⟨o9.1, z9.1⟩, p2⟩, by simp, by simp [List.getD], by simp, by simp, fun p hp => getD_app _ _ hp⟩
theorem Build (fr : Bool) (l : List R3) (ok : mayB (-1) l = true) (hl : l.length ≤ 4096) (n : Int) (h : Heap) {K : PV → Heap → Prop} (k : ∀ F bs, Tab l n F bs → K (.tup [tab true F bs n, .int .i64 0]) h) :
    CanP Try.prog 19 [.list fr 3 l.length (l.flatMap r3), .int .i64 n] h K := by
  refine e19 rfl ?_
  try simp only [c19, r19_0, r19_1, r19_2, r19_3, r19_4, r19_5, r19_6, r19_7, r19_8, r19_9, r19_10, r19_11, r19_12, r19_13, r19_14, r19_15, r19_16, r19_17, old_r3, or_false, false_or, Bool.and_self, Bool.and_true, Bool.true_and, Bool.and_false, Bool.false_and, Bool.not_not, Int.cast_ofNat_Int, beq_self_eq_true, Heap.set_same, Heap.set_set, Heap.kill_kset, Int.toNat_natCast, Int.natCast_nonneg, Int.ofNat_lt, Int.ofNat_le, Int.natCast_inj, pmC, pmE, pmS, pmV, pmK, pmQ, pmL, pmX, pmF, pmO, pmA, pmR, pmW, pmB, Option.isSome_some, ft, olds_ints, olds_bools, ↓reduceIte, Nat.reduceEqDiff, reduceCtorEq, Nat.reduceAdd, Nat.reduceMul, Nat.reduceLeDiff, Nat.reduceLT, Int.reduceLE, Int.reduceLT, Int.reduceEq, Int.reduceToNat, Nat.zero_mul, Nat.zero_add, Nat.mul_one, ne_eq, not_false_eq_true, not_true_eq_false, true_and, and_true, decide_true, decide_false, Bool.not_true, Bool.not_false, Bool.false_eq_true, and_self, Nat.add_zero]
  refine may _ _ ok hl _ ?_
  try simp only [↓rep_Z, or_false, false_or, Bool.and_self, Bool.and_true, Bool.true_and, Bool.and_false, Bool.false_and, Bool.not_not, Int.cast_ofNat_Int, beq_self_eq_true, Heap.set_same, Heap.set_set, Heap.kill_kset, Int.toNat_natCast, Int.natCast_nonneg, Int.ofNat_lt, Int.ofNat_le, Int.natCast_inj, pmC, pmE, pmS, pmV, pmK, pmQ, pmL, pmX, pmF, pmO, pmA, pmR, pmW, pmB, Option.isSome_some, ft, olds_ints, olds_bools, ↓reduceIte, Nat.reduceEqDiff, reduceCtorEq, Nat.reduceAdd, Nat.reduceMul, Nat.reduceLeDiff, Nat.reduceLT, Int.reduceLE, Int.reduceLT, Int.reduceEq, Int.reduceToNat, Nat.zero_mul, Nat.zero_add, Nat.mul_one, ne_eq, not_false_eq_true, not_true_eq_false, true_and, and_true, decide_true, decide_false, Bool.not_true, Bool.not_false, Bool.false_eq_true, and_self, Nat.add_zero]
  intro bt hbt
  try simp only [↓rep_Z, or_false, false_or, Bool.and_self, Bool.and_true, Bool.true_and, Bool.and_false, Bool.false_and, Bool.not_not, Int.cast_ofNat_Int, beq_self_eq_true, Heap.set_same, Heap.set_set, Heap.kill_kset, Int.toNat_natCast, Int.natCast_nonneg, Int.ofNat_lt, Int.ofNat_le, Int.natCast_inj, pmC, pmE, pmS, pmV, pmK, pmQ, pmL, pmX, pmF, pmO, pmA, pmR, pmW, pmB, Option.isSome_some, ft, olds_ints, olds_bools, ↓reduceIte, Nat.reduceEqDiff, reduceCtorEq, Nat.reduceAdd, Nat.reduceMul, Nat.reduceLeDiff, Nat.reduceLT, Int.reduceLE, Int.reduceLT, Int.reduceEq, Int.reduceToNat, Nat.zero_mul, Nat.zero_add, Nat.mul_one, ne_eq, not_false_eq_true, not_true_eq_false, true_and, and_true, decide_true, decide_false, Bool.not_true, Bool.not_false, Bool.false_eq_true, and_self, Nat.add_zero]
  refine ⟨by omega, fun b1 hb1 => ?_⟩
  have hne1 : b1 ≠ bt := fun e => by rw [e, Heap.set_same] at hb1; cases hb1
  have hb1' : h.f b1 = none := by rwa [Heap.set_ne _ _ hne1] at hb1
  have hs1 : ∀ (g : Heap) (Y : List PV), (g.set b1 Y).f bt = g.f bt := fun g Y => Heap.set_ne g Y (Ne.symm hne1)
  try simp only [hs1, zero_blk, ↓rep_Z, or_false, false_or, Bool.and_self, Bool.and_true, Bool.true_and, Bool.and_false, Bool.false_and, Bool.not_not, Int.cast_ofNat_Int, beq_self_eq_true, Heap.set_same, Heap.set_set, Heap.kill_kset, Int.toNat_natCast, Int.natCast_nonneg, Int.ofNat_lt, Int.ofNat_le, Int.natCast_inj, pmC, pmE, pmS, pmV, pmK, pmQ, pmL, pmX, pmF, pmO, pmA, pmR, pmW, pmB, Option.isSome_some, ft, olds_ints, olds_bools, ↓reduceIte, Nat.reduceEqDiff, reduceCtorEq, Nat.reduceAdd, Nat.reduceMul, Nat.reduceLeDiff, Nat.reduceLT, Int.reduceLE, Int.reduceLT, Int.reduceEq, Int.reduceToNat, Nat.zero_mul, Nat.zero_add, Nat.mul_one, ne_eq, not_false_eq_true, not_true_eq_false, true_and, and_true, decide_true, decide_false, Bool.not_true, Bool.not_false, Bool.false_eq_true, and_self, Nat.add_zero]
  intro b9 hb9
  have hne9 : b9 ≠ bt := fun e => by rw [e, Heap.set_same] at hb9; cases hb9
  have hb9a := hb9
  rw [Heap.set_ne _ _ hne9] at hb9a
  have hne91 : b9 ≠ b1 := fun e => by rw [e, Heap.set_same] at hb9a; cases hb9a
  have hb9' : h.f b9 = none := by rwa [Heap.set_ne _ _ hne91, Heap.set_ne _ _ hne9] at hb9a
  try simp only [blk_cells, wr_blk, Nat.le_refl, or_false, false_or, Bool.and_self, Bool.and_true, Bool.true_and, Bool.and_false, Bool.false_and, Bool.not_not, Int.cast_ofNat_Int, beq_self_eq_true, Heap.set_same, Heap.set_set, Heap.kill_kset, Int.toNat_natCast, Int.natCast_nonneg, Int.ofNat_lt, Int.ofNat_le, Int.natCast_inj, pmC, pmE, pmS, pmV, pmK, pmQ, pmL, pmX, pmF, pmO, pmA, pmR, pmW, pmB, Option.isSome_some, ft, olds_ints, olds_bools, ↓reduceIte, Nat.reduceEqDiff, reduceCtorEq, Nat.reduceAdd, Nat.reduceMul, Nat.reduceLeDiff, Nat.reduceLT, Int.reduceLE, Int.reduceLT, Int.reduceEq, Int.reduceToNat, Nat.zero_mul, Nat.zero_add, Nat.mul_one, ne_eq, not_false_eq_true, not_true_eq_false, true_and, and_true, decide_true, decide_false, Bool.not_true, Bool.not_false, Bool.false_eq_true, and_self, Nat.add_zero]
  refine pwp_up 8704 (fun i σ h' => ∃ F bs sc gl f la, TS h h' bt b1 b9 n F bs sc gl ∧ F.length = 8704 ∧ bs.length ≤ i ∧ σ 0 = .list false 3 l.length (l.flatMap r3) ∧ σ 1 = .int .i64 n ∧ σ 7 = .ptr bt 0 ∧ σ 8 = .int .i64 (f : Nat) ∧ σ 9 = .ptr b9 0 ∧ σ 10 = .int .i64 la ∧ σ 27 = .int .i64 i ∧
    (i = 0 → la = -1) ∧ (0 < i → ∃ q : Nat, la = q ∧ q < bs.length ∧ blk (bs.getD q default) = Bk l n (i - 1) ∧ blk gl = Bk l n (i - 1)) ∧
    (∀ p, p < i → ∃ q : Nat, F.getD p default = q ∧ q < bs.length ∧ blk (bs.getD q default) = Bk l n p) ∧ f ≤ l.length ∧ ∀ j, j < f → (l.getD j default).2.1 < (i : Int) * 128) ?_ ?_
  · refine ⟨Zs 8704, [], .nils, fun _ => 0, 0, -1, ⟨?_, ⟨hb1', ?_⟩, .inl ⟨rfl, rfl, rfl⟩, (fun e => by cases e), (fun e => by cases e), (fun e => by cases e), ⟨hb9', ?_⟩, ?_⟩, Zs_len _, Nat.zero_le _, rfl, rfl, rfl, rfl, rfl, rfl, rfl, fun _ => rfl, fun e => by omega, fun p hp => by omega, Nat.zero_le _, fun j hj => by omega⟩
    · rw [Heap.set_ne _ _ (Ne.symm hne9), Heap.set_same]
    · rw [Heap.set_ne _ _ (Ne.symm hne91), Heap.set_ne _ _ hne1, Heap.set_same]
    · rw [Heap.set_same]; rfl
    · exact Heap.le_set (Heap.le_set (Heap.le_set (Heap.le_set (Heap.le_refl _) hbt) hb1') hbt) hb9'
  · rintro i σ h' K' hi ⟨F, bs, sc, gl, f, la, ts, hF, hbl, s0, s1, s7, s8, s9, s10, s27, la0, laq, hFp, hf, hfb⟩ next
    try simp only [s27, cdK_dec, or_false, false_or, Bool.and_self, Bool.and_true, Bool.true_and, Bool.and_false, Bool.false_and, Bool.not_not, Int.cast_ofNat_Int, beq_self_eq_true, Heap.set_same, Heap.set_set, Heap.kill_kset, Int.toNat_natCast, Int.natCast_nonneg, Int.ofNat_lt, Int.ofNat_le, Int.natCast_inj, pmC, pmE, pmS, pmV, pmK, pmQ, pmL, pmX, pmF, pmO, pmA, pmR, pmW, pmB, Option.isSome_some, ft, olds_ints, olds_bools, ↓reduceIte, Nat.reduceEqDiff, reduceCtorEq, Nat.reduceAdd, Nat.reduceMul, Nat.reduceLeDiff, Nat.reduceLT, Int.reduceLE, Int.reduceLT, Int.reduceEq, Int.reduceToNat, Nat.zero_mul, Nat.zero_add, Nat.mul_one, ne_eq, not_false_eq_true, not_true_eq_false, true_and, and_true, decide_true, decide_false, Bool.not_true, Bool.not_false, Bool.false_eq_true, and_self, Nat.add_zero]
    refine ⟨fun hlt => ?_, fun hge => ?_⟩
    · have hi4 : i < 8704 := by omega
      try simp only [s27, zero_blk, or_false, false_or, Bool.and_self, Bool.and_true, Bool.true_and, Bool.and_false, Bool.false_and, Bool.not_not, Int.cast_ofNat_Int, beq_self_eq_true, Heap.set_same, Heap.set_set, Heap.kill_kset, Int.toNat_natCast, Int.natCast_nonneg, Int.ofNat_lt, Int.ofNat_le, Int.natCast_inj, pmC, pmE, pmS, pmV, pmK, pmQ, pmL, pmX, pmF, pmO, pmA, pmR, pmW, pmB, Option.isSome_some, ft, olds_ints, olds_bools, ↓reduceIte, Nat.reduceEqDiff, reduceCtorEq, Nat.reduceAdd, Nat.reduceMul, Nat.reduceLeDiff, Nat.reduceLT, Int.reduceLE, Int.reduceLT, Int.reduceEq, Int.reduceToNat, Nat.zero_mul, Nat.zero_add, Nat.mul_one, ne_eq, not_false_eq_true, not_true_eq_false, true_and, and_true, decide_true, decide_false, Bool.not_true, Bool.not_false, Bool.false_eq_true, and_self, Nat.add_zero]
      intro b12 hb12
      try simp only [s0, s1, s8, or_false, false_or, Bool.and_self, Bool.and_true, Bool.true_and, Bool.and_false, Bool.false_and, Bool.not_not, Int.cast_ofNat_Int, beq_self_eq_true, Heap.set_same, Heap.set_set, Heap.kill_kset, Int.toNat_natCast, Int.natCast_nonneg, Int.ofNat_lt, Int.ofNat_le, Int.natCast_inj, pmC, pmE, pmS, pmV, pmK, pmQ, pmL, pmX, pmF, pmO, pmA, pmR, pmW, pmB, Option.isSome_some, ft, olds_ints, olds_bools, ↓reduceIte, Nat.reduceEqDiff, reduceCtorEq, Nat.reduceAdd, Nat.reduceMul, Nat.reduceLeDiff, Nat.reduceLT, Int.reduceLE, Int.reduceLT, Int.reduceEq, Int.reduceToNat, Nat.zero_mul, Nat.zero_add, Nat.mul_one, ne_eq, not_false_eq_true, not_true_eq_false, true_and, and_true, decide_true, decide_false, Bool.not_true, Bool.not_false, Bool.false_eq_true, and_self, Nat.add_zero]
      refine filled _ _ ok hl i f n hi4 hf hfb _ fun f' hf' hfb' => ?_
      rw [Bk_eq]
      try simp only [ci_len, Heap.kill_none hb12, old_ci, wrc, s10, or_false, false_or, Bool.and_self, Bool.and_true, Bool.true_and, Bool.and_false, Bool.false_and, Bool.not_not, Int.cast_ofNat_Int, beq_self_eq_true, Heap.set_same, Heap.set_set, Heap.kill_kset, Int.toNat_natCast, Int.natCast_nonneg, Int.ofNat_lt, Int.ofNat_le, Int.natCast_inj, pmC, pmE, pmS, pmV, pmK, pmQ, pmL, pmX, pmF, pmO, pmA, pmR, pmW, pmB, Option.isSome_some, ft, olds_ints, olds_bools, ↓reduceIte, Nat.reduceEqDiff, reduceCtorEq, Nat.reduceAdd, Nat.reduceMul, Nat.reduceLeDiff, Nat.reduceLT, Int.reduceLE, Int.reduceLT, Int.reduceEq, Int.reduceToNat, Nat.zero_mul, Nat.zero_add, Nat.mul_one, ne_eq, not_false_eq_true, not_true_eq_false, true_and, and_true, decide_true, decide_false, Bool.not_true, Bool.not_false, Bool.false_eq_true, and_self, Nat.add_zero]
      refine ⟨by rw [blk_cells]; omega, ?_⟩
      obtain ⟨t1, ob1, ac, d1, d2, d3, ob9, lh⟩ := id ts
      have g9 := ob9.2
      have gBk : ∀ q, blk (gB l n q) = Bk l n q := fun q => rfl
      have hFs := fun (bs' : List (Nat → Int)) (q : Nat) (hq : q < bs'.length) (hqb : blk (bs'.getD q default) = Bk l n i) (hle : ∀ p, p < bs.length → bs'.getD p default = bs.getD p default) (hlen : bs.length ≤ bs'.length) =>
        (show ∀ p, p < i + 1 → ∃ q' : Nat, (F.set i (q : Int)).getD p default = q' ∧ q' < bs'.length ∧ blk (bs'.getD q' default) = Bk l n p from fun p hp => by
          by_cases e : p = i
          · subst e; exact ⟨q, by simp [List.getD, hF, hi4], hq, hqb⟩
          · obtain ⟨q', w1, w2, w3⟩ := hFp p (by omega)
            refine ⟨q', ?_, by omega, by rw [hle q' w2]; exact w3⟩
            rw [← w1]; simp only [List.getD, List.getElem?_set_ne (Ne.symm e)])
      have hw1 := fun x => wr_map (PV.int .i64) x F (i := i) (by omega)
      have hml : (F.map (PV.int .i64)).length = 8704 := by rw [List.length_map, hF]
      have hi5 : (i : Int) < 8704 := by omega
      have hwi : IntKind.i64.wrap ((i : Int) + 1) = (i : Int) + 1 := wrap_in (by omega) (by omega)
      by_cases hsk : 0 < i ∧ blk (gB l n i) = blk gl
      · obtain ⟨q, q1, q2, q3, q4⟩ := laq hsk.1
        have hn : ¬ la < 0 := by omega
        have hd := decide_eq_true hsk.2
        have hb1f := ob1.2
        try simp only [hn, s7, s9, s10, s27, t1, g9, ci_len, ci_take, ci_eq, old_ci, Option.some.injEq, false_and, hd, hi4, hi5, Nat.mul_one, hb1f, hml, hw1, hwi, or_false, false_or, Bool.and_self, Bool.and_true, Bool.true_and, Bool.and_false, Bool.false_and, Bool.not_not, Int.cast_ofNat_Int, beq_self_eq_true, Heap.set_same, Heap.set_set, Heap.kill_kset, Int.toNat_natCast, Int.natCast_nonneg, Int.ofNat_lt, Int.ofNat_le, Int.natCast_inj, pmC, pmE, pmS, pmV, pmK, pmQ, pmL, pmX, pmF, pmO, pmA, pmR, pmW, pmB, Option.isSome_some, ft, olds_ints, olds_bools, ↓reduceIte, Nat.reduceEqDiff, reduceCtorEq, Nat.reduceAdd, Nat.reduceMul, Nat.reduceLeDiff, Nat.reduceLT, Int.reduceLE, Int.reduceLT, Int.reduceEq, Int.reduceToNat, Nat.zero_mul, Nat.zero_add, Nat.mul_one, ne_eq, not_false_eq_true, not_true_eq_false, true_and, and_true, decide_true, decide_false, Bool.not_true, Bool.not_false, Bool.false_eq_true, and_self, Nat.add_zero]
        refine ⟨by omega, ?_⟩
        subst q1
        refine next hi4 _ _ ⟨F.set i (q : Int), bs, sc, gl, f', q, ⟨?_, ob1.set, ac.set d2, d1, d2, d3, ob9.other (Ne.symm hne91), ob1.le lh⟩, by rw [List.length_set]; exact hF, by omega, by simp [put, s0], by simp [put, s1], by simp [put, s7], by simp [put], by simp [put, s9], by simp [put, s10], by simp [put], fun e => by omega, fun _ => ⟨q, rfl, q2, ?_, ?_⟩, hFs bs q q2 ?_ (fun _ _ => rfl) (Nat.le_refl _), hf', fun j hj => by have := hfb' j hj; simpa using this⟩
        · rw [Heap.set_ne _ _ (Ne.symm hne1)]; exact t1
        · rw [q3, ← q4, ← hsk.2]; rfl
        · rw [← hsk.2]; rfl
        · rw [q3, ← q4, ← hsk.2]; rfl
      · by_cases e0 : i = 0
        case' pos =>
          have hla : la = -1 := la0 e0
          have hn : la < 0 := by omega
          try simp only [hn, s7, s9, s10, s27, t1, ci_len, ci_take, old_ci, or_false, false_or, Bool.and_self, Bool.and_true, Bool.true_and, Bool.and_false, Bool.false_and, Bool.not_not, Int.cast_ofNat_Int, beq_self_eq_true, Heap.set_same, Heap.set_set, Heap.kill_kset, Int.toNat_natCast, Int.natCast_nonneg, Int.ofNat_lt, Int.ofNat_le, Int.natCast_inj, pmC, pmE, pmS, pmV, pmK, pmQ, pmL, pmX, pmF, pmO, pmA, pmR, pmW, pmB, Option.isSome_some, ft, olds_ints, olds_bools, ↓reduceIte, Nat.reduceEqDiff, reduceCtorEq, Nat.reduceAdd, Nat.reduceMul, Nat.reduceLeDiff, Nat.reduceLT, Int.reduceLE, Int.reduceLT, Int.reduceEq, Int.reduceToNat, Nat.zero_mul, Nat.zero_add, Nat.mul_one, ne_eq, not_false_eq_true, not_true_eq_false, true_and, and_true, decide_true, decide_false, Bool.not_true, Bool.not_false, Bool.false_eq_true, and_self, Nat.add_zero]
        case' neg =>
          have hn : ¬ la < 0 := by obtain ⟨q, q1, _⟩ := laq (by omega); omega
          have hd : decide (blk (gB l n i) = blk gl) = false := decide_eq_false fun e => hsk ⟨by omega, e⟩
          try simp only [hn, s7, s9, s10, s27, t1, g9, ci_len, ci_take, ci_eq, old_ci, Option.some.injEq, false_and, hd, or_false, false_or, Bool.and_self, Bool.and_true, Bool.true_and, Bool.and_false, Bool.false_and, Bool.not_not, Int.cast_ofNat_Int, beq_self_eq_true, Heap.set_same, Heap.set_set, Heap.kill_kset, Int.toNat_natCast, Int.natCast_nonneg, Int.ofNat_lt, Int.ofNat_le, Int.natCast_inj, pmC, pmE, pmS, pmV, pmK, pmQ, pmL, pmX, pmF, pmO, pmA, pmR, pmW, pmB, Option.isSome_some, ft, olds_ints, olds_bools, ↓reduceIte, Nat.reduceEqDiff, reduceCtorEq, Nat.reduceAdd, Nat.reduceMul, Nat.reduceLeDiff, Nat.reduceLT, Int.reduceLE, Int.reduceLT, Int.reduceEq, Int.reduceToNat, Nat.zero_mul, Nat.zero_add, Nat.mul_one, ne_eq, not_false_eq_true, not_true_eq_false, true_and, and_true, decide_true, decide_false, Bool.not_true, Bool.not_false, Bool.false_eq_true, and_self, Nat.add_zero]
        all_goals
          refine ⟨AS (gB l n i) bs bt (.buf b1 1 0 8704) sc (.int .i64 n) (.bool true) h h', AS_some _ _ _ _ _ _ _ _ _ t1 hbt ac lh d1, add _ _ (by omega) bt _ sc _ _ h h' t1 hbt ac lh d1 (fun q w1 w2 => .inl ⟨q, w1, w2, rfl, rfl⟩) (fun v' hh p1 p2 p3 p4 p5 => .inr ⟨v', p1, p2, p3, p4, p5, rfl⟩), fun v hh hS => ?_⟩
          obtain ⟨q, bs', sc', rfl, ts', w1, w2, w3, w4, w5⟩ := AS_post hne1 hne9 ts hS
          obtain ⟨u1, uo1, uac, ud1, ud2, ud3, uo9, ulh⟩ := ts'
          have u9 := uo9.2
          have hs9 : ∀ (g : Heap) (Y : List PV), (g.set b9 Y).f bt = g.f bt := fun g Y => Heap.set_ne g Y (Ne.symm hne9)
          have hs91 : ∀ (g : Heap) (Y : List PV), (g.set b9 Y).f b1 = g.f b1 := fun g Y => Heap.set_ne g Y (Ne.symm hne91)
          have uo12 := uo1.2
          try simp only [s7, s9, s27, u1, u9, hs9, hs91, uo12, ci_len, wrc, hi4, hi5, Nat.mul_one, hml, hw1, hwi, or_false, false_or, Bool.and_self, Bool.and_true, Bool.true_and, Bool.and_false, Bool.false_and, Bool.not_not, Int.cast_ofNat_Int, beq_self_eq_true, Heap.set_same, Heap.set_set, Heap.kill_kset, Int.toNat_natCast, Int.natCast_nonneg, Int.ofNat_lt, Int.ofNat_le, Int.natCast_inj, pmC, pmE, pmS, pmV, pmK, pmQ, pmL, pmX, pmF, pmO, pmA, pmR, pmW, pmB, Option.isSome_some, ft, olds_ints, olds_bools, ↓reduceIte, Nat.reduceEqDiff, reduceCtorEq, Nat.reduceAdd, Nat.reduceMul, Nat.reduceLeDiff, Nat.reduceLT, Int.reduceLE, Int.reduceLT, Int.reduceEq, Int.reduceToNat, Nat.zero_mul, Nat.zero_add, Nat.mul_one, ne_eq, not_false_eq_true, not_true_eq_false, true_and, and_true, decide_true, decide_false, Bool.not_true, Bool.not_false, Bool.false_eq_true, and_self, Nat.add_zero]
          refine ⟨by omega, next hi4 _ _ ⟨F.set i (q : Int), bs', sc', gB l n i, f', q, ⟨?_, (uo1.other hne91).set, (uac.set ud3).set ud2, ud1, ud2, ud3, uo9.set.other (Ne.symm hne91), Heap.le_set (Heap.le_set ulh hb9') hb1'⟩, by rw [List.length_set]; exact hF, by omega, by simp [put, s0], by simp [put, s1], by simp [put, s7], by simp [put], by simp [put, s9], by simp [put], by simp [put], fun e => by omega, fun _ => ⟨q, rfl, w1, w2, rfl⟩, hFs bs' q w1 w2 w5 w3, hf', fun j hj => by have := hfb' j hj; simpa using this⟩⟩
          rw [Heap.set_ne _ _ (Ne.symm hne1), Heap.set_ne _ _ (Ne.symm hne9)]; exact u1
    · have hil : i = 8704 := by omega
      subst hil
      obtain ⟨t1, ob1, ac, d1, d2, d3, ob9, lh⟩ := ts
      obtain ⟨q0, _, q1, _, _⟩ := laq (by omega)
      rcases ac.live with ⟨rfl, e, _⟩ | ⟨b2, rfl, a1, a2, a3⟩
      · omega
      · have hb2 : b2 ≠ bt := fun e => d1 (by rw [e]; rfl)
        have hb21 : b2 ≠ b1 := fun e => d2 (by rw [e]; rfl)
        have f1 : frzC h' (.ptr bt 0) 0 = some (bt, b1, [.list false 1 8704 (F.map (.int .i64)), .buf b2 128 0 bs.length, .int .i64 n, .bool true]) := by
          have ht : (F.map (PV.int .i64)).take 8704 = F.map (.int .i64) := List.take_of_length_le (by simp [hF])
          simp [frzC, t1, frzV, ob1.2, hF, ht, olds_ints, hne1]
        have f2 : frzC ((h'.kill b1).set bt [.list false 1 8704 (F.map (.int .i64)), .buf b2 128 0 bs.length, .int .i64 n, .bool true]) (.ptr bt 0) 1 = some (bt, b2, [.list false 1 8704 (F.map (.int .i64)), .list false 128 bs.length (bs.flatMap ci), .int .i64 n, .bool true]) := by
          have ht : (bs.flatMap ci).take (bs.length * 128) = bs.flatMap ci := List.take_of_length_le (by omega)
          have hg : ((h'.kill b1).set bt [.list false 1 8704 (F.map (.int .i64)), .buf b2 128 0 bs.length, .int .i64 n, .bool true]).f b2 = some (bs.flatMap ci) := by
            rw [Heap.set_ne _ _ hb2, Heap.kill_ne _ hb21]; exact a2
          simp [frzC, Heap.set_same, frzV, hg, a3, ht, old_cis, hb2]
        try simp only [s7, f1, f2, or_false, false_or, Bool.and_self, Bool.and_true, Bool.true_and, Bool.and_false, Bool.false_and, Bool.not_not, Int.cast_ofNat_Int, beq_self_eq_true, Heap.set_same, Heap.set_set, Heap.kill_kset, Int.toNat_natCast, Int.natCast_nonneg, Int.ofNat_lt, Int.ofNat_le, Int.natCast_inj, pmC, pmE, pmS, pmV, pmK, pmQ, pmL, pmX, pmF, pmO, pmA, pmR, pmW, pmB, Option.isSome_some, ft, olds_ints, olds_bools, ↓reduceIte, Nat.reduceEqDiff, reduceCtorEq, Nat.reduceAdd, Nat.reduceMul, Nat.reduceLeDiff, Nat.reduceLT, Int.reduceLE, Int.reduceLT, Int.reduceEq, Int.reduceToNat, Nat.zero_mul, Nat.zero_add, Nat.mul_one, ne_eq, not_false_eq_true, not_true_eq_false, true_and, and_true, decide_true, decide_false, Bool.not_true, Bool.not_false, Bool.false_eq_true, and_self, Nat.add_zero]
        have lh2 : h.le ((((h'.kill b1).set bt [.list false 1 8704 (F.map (.int .i64)), .buf b2 128 0 bs.length, .int .i64 n, .bool true]).kill b2).set bt [.list false 1 8704 (F.map (.int .i64)), .list false 128 bs.length (bs.flatMap ci), .int .i64 n, .bool true]) :=
          Heap.le_set (Heap.le_kill (Heap.le_set (Heap.le_kill lh ob1.1) hbt) a1) hbt
        have wk := Wk.ptr (off := 0) lh2 hbt (Heap.set_same _ _ _) hbt
        have et : PV.fptr true (olds [.list false 1 8704 (F.map (.int .i64)), .list false 128 bs.length (bs.flatMap ci), .int .i64 n, .bool true]) 0 = tab true F bs n := by
          simp [tab, olds, PV.old, olds_ints, old_cis]
        rw [et] at wk
        exact finK_wk (Wk.tup (us := [tab true F bs n, .int .i64 0]) lh2 ⟨wk, Wk.drop _ lh2, trivial⟩) (k F bs ⟨hF, hbl, hFp⟩)
end Go.Proofs.Ytjabiegaeflhjaa
