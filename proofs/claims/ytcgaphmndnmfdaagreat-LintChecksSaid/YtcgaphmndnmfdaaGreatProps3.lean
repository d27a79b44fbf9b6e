/-
  What codes are, of whole rows: the package props.
  Conditions: none but those that each sentence tells.
-/
import Derived.Test.YtcgaphmndnmfdaaGreatProps1
namespace Go.Proofs.YtcgaphmndnmfdaaGreat
open Go.Pm
open Nat renaming reduceEqDiff → nE, reduceAdd → nA, reduceMul → nM, reduceLeDiff → nD, reduceLT → nL
open Int renaming reduceLE → iL, reduceLT → iT, reduceEq → iE, reduceToNat → iN, cast_ofNat_Int → iC
set_option maxRecDepth 100000
set_option linter.unusedSimpArgs false
set_option linter.unusedVariables false

theorem propsEach (fr : Bool) (l : List Int) (hl : l.length ≤ 1000000) (g : FuncId) (first caps first2 caps2 : List PV) (e1 : olds first = first2) (e2 : olds caps = caps2) (f : Int → Int) (h : Heap)
    (hg : ∀ (x : Int) (h' : Heap) (K : PV → Heap → Prop), K (.int .i64 (f x)) h' → CanP Tryz.prog g (first2 ++ [.int .i64 x] ++ caps2) h' K)
    {K : PV → Heap → Prop} (k : K (.list true 1 l.length ((l.map f).map (.int .i64))) h) :
    CanP Tryz.prog 88 [.list fr 1 l.length (l.map (.int .i64)), .fn g first caps] h K := by
  refine e88 rfl ?_
  try simp only [c88, r88_0, r88_1, r88_2, r88_3, r88_4, r88_5, r88_6, r88_7, e1, e2, pm, pmW, pmB, ft, ↓reduceIte, reduceCtorEq, nE, nA, nM, nD, nL, iL, iT, iE, iN, iC]
  refine ⟨Nat.le_refl _, by omega, by omega, fun b hb => ?_⟩
  try simp only [pm, pmW, pmB, ft, ↓reduceIte, reduceCtorEq, nE, nA, nM, nD, nL, iL, iT, iE, iN, iC]
  refine pwp_up l.length (fun i σ h' => h.le h' ∧ h'.f b = some (((l.map f).take i).map (PV.int .i64) ++ List.replicate ((l.map f).length - i) (PV.int .i64 0)) ∧ σ 1 = .fn g first2 caps2 ∧ σ 5 = .buf b 1 0 l.length ∧ (∃ fr, σ 11 = .list fr 1 l.length (l.map (.int .i64))) ∧ σ 12 = .int .i64 l.length ∧ σ 13 = .int .i64 i) ?_ ?_
  · refine ⟨Heap.le_set (Heap.le_refl _) hb, ?_, rfl, rfl, ⟨_, rfl⟩, rfl, rfl⟩
    rw [Heap.set_same, rep_map (PV.int .i64) (0 : Int)]
    simp
  · rintro i σ h' K' hi ⟨lh, hrow, s1, s5, ⟨fr2, s11⟩, s12, s13⟩ next
    try simp only [s11, s12, s13, cdK_dec, pm, pmW, pmB, ft, ↓reduceIte, reduceCtorEq, nE, nA, nM, nD, nL, iL, iT, iE, iN, iC]
    refine ⟨fun hlt => ?_, fun hge => ?_⟩
    · have hx := getm (.int .i64) l hlt
      have hf := fill_set (PV.int .i64) (PV.int .i64 0) (l.map f) (i := i) (by simpa using hlt)
      have hd : (l.map f).getD i default = f (l.getD i default) := by simp [List.getD, hlt]
      rw [hd] at hf
      have hlen : i < (((l.map f).take i).map (PV.int .i64) ++ List.replicate ((l.map f).length - i) (PV.int .i64 0)).length := by simp; omega
      generalize l.getD i default = c at *
      try simp only [s1, s5, s11, s13, hx, hlt, pm, pmW, pmB, ft, ↓reduceIte, reduceCtorEq, nE, nA, nM, nD, nL, iL, iT, iE, iN, iC]
      refine hg _ _ _ ?_
      have hw : IntKind.i64.wrap ((i : Int) + 1) = (i : Int) + 1 := wrap_in (by omega) (by omega)
      try simp only [s5, s13, hrow, hlt, hw, pm, pmW, pmB, ft, ↓reduceIte, reduceCtorEq, nE, nA, nM, nD, nL, iL, iT, iE, iN, iC]
      refine ⟨by simp at hlen ⊢; omega, ?_⟩
      refine next hlt _ _ ⟨Heap.le_set lh hb, ?_, by simp [put, s1], by simp [put, s5], ⟨fr2, by simp [put, s11]⟩, by simp [put, s12], by simp [put]⟩
      rw [Heap.set_same, wr_one hlen]
      exact congrArg some hf
    · have hil : i = l.length := by omega
      subst hil
      try simp only [s5, pm, pmW, pmB, ft, ↓reduceIte, reduceCtorEq, nE, nA, nM, nD, nL, iL, iT, iE, iN, iC]
      have hrow3 : h'.f b = some ((l.map f).map (PV.int .i64)) := by rw [hrow]; simp [List.take_of_length_le]
      exact (Acc.buf hb hrow3 (by simp) : Acc h h' (.buf b 1 0 l.length) 1 l.length _).fin lh (by rw [olds_ints]; exact k)
theorem Classes (p : PV) (hp : PR p) (fr : Bool) (l : List Int) (hl : l.length ≤ 1000000) (h : Heap) {K : PV → Heap → Prop} (k : K (.list true 1 l.length ((l.map classT).map (.int .i64))) h) : CanP Tryz.prog 46 [p, .list fr 1 l.length (l.map (.int .i64))] h K := by
  refine e46 rfl ?_
  have hp' := hp.old
  have ho : p.old.old = p.old := hp.old2
  try simp only [c46, r46_0, r46_1, pm, pmW, pmB, ft, ↓reduceIte, reduceCtorEq, nE, nA, nM, nD, nL, iL, iT, iE, iN, iC]
  generalize p.old = p2 at *
  refine propsEach _ l hl _ [p2] [] [p2] [] (by simp only [olds, ho]) rfl classT _ (fun x h' K kk => Class _ hp' _ _ kk) ?_
  try simp only [pm, pmW, pmB, ft, ↓reduceIte, reduceCtorEq, nE, nA, nM, nD, nL, iL, iT, iE, iN, iC]
  exact finK_le (Heap.le_refl _) k
end Go.Proofs.YtcgaphmndnmfdaaGreat
