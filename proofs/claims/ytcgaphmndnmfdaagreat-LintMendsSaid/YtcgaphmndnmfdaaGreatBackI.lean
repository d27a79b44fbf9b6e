/-
  A row of whole numbers from its end on (slices.Backward): what it hands to a loop's rounds.
  Conditions: none but those that each sentence tells.
-/
import Derived.Test.YtcgaphmndnmfdaaGreatPmW
import Derived.Test.YtcgaphmndnmfdaaGreatC
import Derived.RangeFuncBox
import Derived.WalkKit
import Derived.OwnWalkIn
import Derived.TacticsInMore
import Derived.LoopNIn
import Derived.LoopIn
namespace Go.Proofs.YtcgaphmndnmfdaaGreat
open Go.Pm Go.RowKit
open Nat renaming reduceEqDiff → nE, reduceAdd → nA, reduceMul → nM, reduceLeDiff → nD, reduceLT → nL
open Int renaming reduceLE → iL, reduceLT → iT, reduceEq → iE, reduceToNat → iN, cast_ofNat_Int → iC
set_option linter.unusedSimpArgs false
set_option linter.unusedVariables false
attribute [local go_sem] Oper.semAt_some

set_option maxRecDepth 100000 in
set_option maxHeartbeats 2000000 in
theorem backI1 (w : World) (h : Heap) (l pb po b off n cap : Nat) (x : Nat → Int) (hreach : n ≤ 1000000) (hpb : pb < w.heap.size) (hpd : h.f pb = none) (hb : b < w.heap.size) (hd : h.f b = none) (J : Nat → World → Prop)
    (hY : ∀ i, i < n → ∀ W1, J i W1 → YieldAt Fence.wide 1 Tryz.prog l #[.int .i64 ((n : Int) - 1 - i), .int .i64 (x (n - 1 - i))] W1 fun e W' => e = .returned (.bool true) ∧ J (i + 1) W' ∧ KpD w h W1 W')
    (W : World) (hW : KpD w h w W) (hBs : w.cell? ⟨pb, po, none⟩ = some (.slice (some ⟨b, off, none⟩) n cap)) (hc0 : ∀ j, j < n → w.cell? ⟨b, off + j, none⟩ = some (.int .i64 (x j))) (h0 : J 0 W) :
    CallsIn Fence.wide 2 Tryz.prog 148 #[.func (.yield l) #[] #[], .pointer (some ⟨pb, po, none⟩)] W fun e W' => (∃ v, e = .returned v) ∧ J n W' := by
  have kc : ∀ {A : World}, KpD w h w A → ∀ k, A.cell? ⟨pb, k, none⟩ = w.cell? ⟨pb, k, none⟩ ∧ A.cell? ⟨b, k, none⟩ = w.cell? ⟨b, k, none⟩ := fun ka k => ⟨by simp [World.cell?, ka.2 pb hpb hpd], by simp [World.cell?, ka.2 b hb hd]⟩
  refine callsIn_of_wp Tryz.func148 rfl trivial ?_ rfl
  simp only [Tryz.ntmps148, List.size_toArray, List.length_cons, List.length_nil, Nat.reduceAdd, Nat.reduceSub, Array.replicate_succ, Array.replicate_zero, List.push_toArray, List.append_toArray, List.nil_append, List.cons_append]
  have hB0 : W.cell? ⟨pb, po, none⟩ = some (.slice (some ⟨b, off, none⟩) n cap) := by rw [(kc hW po).1]; exact hBs
  gi_wp2
  gi_loopw [3] (fun i wr => ∃ k : Nat, k ≤ n ∧ i = .int .i64 ((n : Int) - 1 - k) ∧ J k wr ∧ KpD w h w wr) (fun i _ => (intOf i + 1).toNat)
  case atStart => exact ⟨0, Nat.zero_le _, by simp, h0, hW⟩
  case round =>
    obtain ⟨k, hk, rfl, hJs, hnx⟩ := hrel
    by_cases hlt : k < n
    · obtain ⟨m, hm⟩ : ∃ m, m = n - 1 - k := ⟨_, rfl⟩
      have hmn : m < n := by omega
      have em : (n : Int) - 1 - k = (m : Int) := by omega
      obtain ⟨fn, tmps, assign, body, hy, hR⟩ := hY k hlt wr hJs
      rw [← hm, em] at hy
      rw [em]
      have hBr : wr.cell? ⟨pb, po, none⟩ = some (.slice (some ⟨b, off, none⟩) n cap) := by rw [(kc hnx po).1]; exact hBs
      have hcl : wr.cell? ⟨b, off + m, none⟩ = some (.int .i64 (x m)) := by rw [(kc hnx _).2]; exact hc0 _ hmn
      clear hm kc hc0 hB0 hBs
      gi_wp2
      refine hR.mono ?_
      rintro e W3 ⟨rfl, hJ3, hk3⟩
      gi_wp2
      go_roundw
      case rel => exact ⟨k + 1, by omega, by simp; omega, hJ3, hnx.trans hk3⟩
      case measure => simp [intOf]
    · obtain rfl : k = n := by omega
      gi_wp2
      go_end0
      exact ⟨⟨_, rfl⟩, hJs⟩
set_option maxRecDepth 100000 in
set_option maxHeartbeats 2000000 in
theorem backI0 (l pb po cap : Nat) (a : Option Addr) (J : Nat → World → Prop) (W : World) (hBs : W.cell? ⟨pb, po, none⟩ = some (.slice a 0 cap)) (h0 : J 0 W) :
    CallsIn Fence.wide 2 Tryz.prog 148 #[.func (.yield l) #[] #[], .pointer (some ⟨pb, po, none⟩)] W fun e W' => (∃ v, e = .returned v) ∧ J 0 W' := by
  refine callsIn_of_wp Tryz.func148 rfl trivial ?_ rfl
  simp only [Tryz.ntmps148, List.size_toArray, List.length_cons, List.length_nil, Nat.reduceAdd, Nat.reduceSub, Array.replicate_succ, Array.replicate_zero, List.push_toArray, List.append_toArray, List.nil_append, List.cons_append]
  gi_wp2
  gi_loopw [3] (fun i wr => i = .int .i64 (-1) ∧ J 0 wr) (fun _ _ => 0)
  case atStart => exact ⟨rfl, h0⟩
  case round =>
    obtain ⟨rfl, hJs⟩ := hrel
    gi_wp2
    go_end0
    exact ⟨⟨_, rfl⟩, hJs⟩
theorem backI_iter (X : List Int) (hl : X.length ≤ 1000000) (h : Heap) : IterP Tryz.prog 148 [.fptr false [.list false 1 X.length (X.map (.int .i64))] 0] h
    ((List.range X.length).map fun (i : Nat) => [.int .i64 ((X.length : Int) - 1 - (i : Int)), .int .i64 (X.getD (X.length - 1 - i) default)]) := by
  intro w lb hw ha
  simp only [TR, VR] at ha
  obtain ⟨c, vs0, h1, ⟨pb, po, vs, rfl, hpb, hpd, _, hcr, hm⟩, rfl⟩ := ha
  obtain rfl : lb = #[.pointer (some ⟨pb, po + 0, none⟩)] := by apply Array.toList_inj.1; exact h1
  simp only [CR, VR] at hcr
  obtain ⟨sv, vs1, rfl, _, ⟨a, cap, vs2, rfl, hcap, hlen, hcs, ha⟩, rfl⟩ := hcr
  have hB := hm 0 _ rfl
  rw [Nat.add_zero] at hB ⊢
  have hx := CR_ints _ hcs
  refine ⟨fun i => #[.int .i64 ((X.length : Int) - 1 - i), .int .i64 (X.getD (X.length - 1 - i) default)], fun i hi => ?_, ?_⟩
  · rw [List.length_map, List.length_range] at hi
    have : ((List.range X.length).map fun (i : Nat) => [PV.int .i64 ((X.length : Int) - 1 - (i : Int)), .int .i64 (X.getD (X.length - 1 - i) default)]).getD i [] = [PV.int .i64 ((X.length : Int) - 1 - i), .int .i64 (X.getD (X.length - 1 - i) default)] := by
      simp [List.getD, hi]
    rw [this]
    simp only [TR, VR]
    exact ⟨_, _, rfl, rfl, _, _, rfl, rfl, rfl⟩
  · rw [List.length_map, List.length_range]
    intro l J W hW hY h0
    have kc : ∀ k, W.cell? ⟨pb, k, none⟩ = w.cell? ⟨pb, k, none⟩ := fun k => by simp [World.cell?, hW.2 pb hpb hpd]
    rcases ha with h0' | ⟨b, o, rfl, hb, hd, _, hmem⟩
    · rw [h0'] at hB ⊢
      exact backI0 l pb po cap a J W (by rw [kc]; exact hB) h0
    · subst hx
      refine backI1 w h l pb po b o X.length cap (fun j => X.getD j default) hl hpb hpd hb hd J hY W hW hB (fun j hj => ?_) h0
      exact hmem j (.int .i64 (X.getD j default)) (by rw [List.getElem?_map, List.getElem?_eq_getElem hj]; simp [List.getD, hj])
theorem enterBackI : ∀ args w, (callFunc 148 args).run Tryz.prog w = .ok (.enter 148 args) w := enters_of Tryz.func148 (by kernel_rfl) rfl
theorem BackwardI (fr : Bool) (cs : List PV) (n : Nat) (h : Heap) {K : PV → Heap → Prop} (k : K (.fn 148 [] [.fptr true [.list false 1 n (olds cs)] 0]) h) :
    CanP Tryz.prog 132 [.list fr 1 n cs] h K := by
  refine e132 rfl ?_
  try simp only [c132, r132_0, r132_1, pm, pmW, pmB, ft, ↓reduceIte, reduceCtorEq, nE, nA, nM, nD, nL, iL, iT, iE, iN, iC]
  exact finK_le (Heap.le_refl _) k
end Go.Proofs.YtcgaphmndnmfdaaGreat
