/-
  A row of spans from its end on (slices.Backward): what it hands to a loop's rounds.
  Conditions: none but those that each sentence tells.
-/
import Derived.Test.YtjabiegaeflhjaaPmV
import Derived.Test.YtjabiegaeflhjaaC
import Derived.RangeFuncBox
import Derived.WalkKit
import Derived.OwnWalkIn
import Derived.TacticsInMore
import Derived.LoopNIn
import Derived.LoopIn
namespace Go.Proofs.Ytjabiegaeflhjaa
open Go.Pm Go.RowKit
set_option linter.unusedSimpArgs false
set_option linter.unusedVariables false
attribute [local go_sem] Oper.semAt_some

set_option maxRecDepth 100000 in
set_option maxHeartbeats 2000000 in
theorem back1 (w : World) (h : Heap) (l pb po b off n cap : Nat) (lo hi : Nat → Int) (hreach : n ≤ 1000000) (hpb : pb < w.heap.size) (hpd : h.f pb = none) (hb : b < w.heap.size) (hd : h.f b = none) (J : Nat → World → Prop)
    (hY : ∀ i, i < n → ∀ W1, J i W1 → YieldAt Fence.wide 1 Try.prog l #[.int .i64 ((n : Int) - 1 - i), .agg #[.int .i64 (lo (n - 1 - i)), .int .i64 (hi (n - 1 - i))]] W1 fun e W' => e = .returned (.bool true) ∧ J (i + 1) W' ∧ KpD w h W1 W')
    (W : World) (hW : KpD w h w W) (hBs : w.cell? ⟨pb, po, none⟩ = some (.slice (some ⟨b, off, none⟩) n cap)) (hc0 : ∀ j, j < n → w.cell? ⟨b, off + j * 2, none⟩ = some (.int .i64 (lo j))) (hc1 : ∀ j, j < n → w.cell? ⟨b, off + j * 2 + 1, none⟩ = some (.int .i64 (hi j))) (h0 : J 0 W) :
    CallsIn Fence.wide 2 Try.prog 46 #[.func (.yield l) #[] #[], .pointer (some ⟨pb, po, none⟩)] W fun e W' => (∃ v, e = .returned v) ∧ J n W' := by
  have kc : ∀ {A : World}, KpD w h w A → ∀ k, A.cell? ⟨pb, k, none⟩ = w.cell? ⟨pb, k, none⟩ ∧ A.cell? ⟨b, k, none⟩ = w.cell? ⟨b, k, none⟩ := fun ka k => ⟨by simp [World.cell?, ka.2 pb hpb hpd], by simp [World.cell?, ka.2 b hb hd]⟩
  refine callsIn_of_wp Try.func46 rfl trivial ?_ rfl
  simp only [Try.ntmps46, List.size_toArray, List.length_cons, List.length_nil, Nat.reduceAdd, Nat.reduceSub, Array.replicate_succ, Array.replicate_zero, List.push_toArray, List.append_toArray, List.nil_append, List.cons_append]
  have hB0 : W.cell? ⟨pb, po, none⟩ = some (.slice (some ⟨b, off, none⟩) n cap) := by rw [(kc hW po).1]; exact hBs
  gi_wp2
  gi_loopw [3] (fun i wr => ∃ k : Nat, k ≤ n ∧ i = .int .i64 ((n : Int) - 1 - k) ∧ J k wr ∧ KpD w h w wr) (fun i _ => (intOf i + 1).toNat)
  case atStart => exact ⟨0, Nat.zero_le _, by simp, h0, hW⟩
  case round =>
    obtain ⟨k, hk, rfl, hJs, hnx⟩ := hrel
    by_cases hlt : k < n
    · obtain ⟨m, hm⟩ : ∃ m, m = n - 1 - k := ⟨_, rfl⟩
      have hmn : m < n := by omega
      have em : (n : Int) - 1 - k = (m : Int) := by omega
      obtain ⟨fn, tmps, assign, body, hy, hR⟩ := hY k hlt wr hJs
      rw [← hm, em] at hy
      rw [em]
      have hBr : wr.cell? ⟨pb, po, none⟩ = some (.slice (some ⟨b, off, none⟩) n cap) := by rw [(kc hnx po).1]; exact hBs
      have hcl : wr.cell? ⟨b, off + m * 2, none⟩ = some (.int .i64 (lo m)) := by rw [(kc hnx _).2]; exact hc0 _ hmn
      have hch : wr.cell? ⟨b, off + m * 2 + 1, none⟩ = some (.int .i64 (hi m)) := by rw [(kc hnx _).2]; exact hc1 _ hmn
      clear hm kc hc0 hc1 hB0 hBs
      gi_wp2
      refine hR.mono ?_
      rintro e W3 ⟨rfl, hJ3, hk3⟩
      gi_wp2
      go_roundw
      case rel => exact ⟨k + 1, by omega, by simp; omega, hJ3, hnx.trans hk3⟩
      case measure => simp [intOf]
    · obtain rfl : k = n := by omega
      gi_wp2
      go_end0
      exact ⟨⟨_, rfl⟩, hJs⟩
set_option maxRecDepth 100000 in
set_option maxHeartbeats 2000000 in
theorem back0 (l pb po cap : Nat) (a : Option Addr) (J : Nat → World → Prop) (W : World) (hBs : W.cell? ⟨pb, po, none⟩ = some (.slice a 0 cap)) (h0 : J 0 W) :
    CallsIn Fence.wide 2 Try.prog 46 #[.func (.yield l) #[] #[], .pointer (some ⟨pb, po, none⟩)] W fun e W' => (∃ v, e = .returned v) ∧ J 0 W' := by
  refine callsIn_of_wp Try.func46 rfl trivial ?_ rfl
  simp only [Try.ntmps46, List.size_toArray, List.length_cons, List.length_nil, Nat.reduceAdd, Nat.reduceSub, Array.replicate_succ, Array.replicate_zero, List.push_toArray, List.append_toArray, List.nil_append, List.cons_append]
  gi_wp2
  gi_loopw [3] (fun i wr => i = .int .i64 (-1) ∧ J 0 wr) (fun _ _ => 0)
  case atStart => exact ⟨rfl, h0⟩
  case round =>
    obtain ⟨rfl, hJs⟩ := hrel
    gi_wp2
    go_end0
    exact ⟨⟨_, rfl⟩, hJs⟩
def spI (x : Int × Int) : List Int := [x.1, x.2]
theorem flat_getI (L : List (Int × Int)) {i j : Nat} (h : i < L.length) (hj : j < 2) : (L.flatMap spI)[i * 2 + j]? = (spI (L.getD i default))[j]? := by
  induction L generalizing i with
  | nil => simp at h
  | cons x L ih =>
    cases i with
    | zero =>
      simp only [List.flatMap_cons, spI, List.cons_append, List.nil_append, Nat.zero_mul, Nat.zero_add]
      rcases (by omega : j = 0 ∨ j = 1) with rfl | rfl <;> rfl
    | succ i =>
      have := ih (i := i) (by simpa using h)
      simp only [List.flatMap_cons, spI, List.cons_append, List.nil_append]
      rw [show (i + 1) * 2 + j = (i * 2 + j) + 1 + 1 by omega, List.getElem?_cons_succ, List.getElem?_cons_succ]
      rw [List.getD_cons_succ]; exact this
theorem back_iter (L : List (Int × Int)) (hl : L.length ≤ 1000000) (h : Heap) : IterP Try.prog 46 [.fptr false [.list false 2 L.length ((L.flatMap spI).map (.int .i64))] 0] h
    ((List.range L.length).map fun (i : Nat) => [.int .i64 ((L.length : Int) - 1 - (i : Int)), .agg [.int .i64 (L.getD (L.length - 1 - i) default).1, .int .i64 (L.getD (L.length - 1 - i) default).2]]) := by
  intro w lb hw ha
  simp only [TR, VR] at ha
  obtain ⟨c, vs0, h1, ⟨pb, po, vs, rfl, hpb, hpd, _, hcr, hm⟩, rfl⟩ := ha
  obtain rfl : lb = #[.pointer (some ⟨pb, po + 0, none⟩)] := by apply Array.toList_inj.1; exact h1
  simp only [CR, VR] at hcr
  obtain ⟨sv, vs1, rfl, _, ⟨a, cap, vs2, rfl, hcap, hlen, hcs, ha⟩, rfl⟩ := hcr
  have hB := hm 0 _ rfl
  rw [Nat.add_zero] at hB ⊢
  have hx := CR_ints _ hcs
  refine ⟨fun i => #[.int .i64 ((L.length : Int) - 1 - i), .agg #[.int .i64 (L.getD (L.length - 1 - i) default).1, .int .i64 (L.getD (L.length - 1 - i) default).2]], fun i hi => ?_, ?_⟩
  · rw [List.length_map, List.length_range] at hi
    have : ((List.range L.length).map fun (i : Nat) => [PV.int .i64 ((L.length : Int) - 1 - (i : Int)), .agg [.int .i64 (L.getD (L.length - 1 - i) default).1, .int .i64 (L.getD (L.length - 1 - i) default).2]]).getD i [] = [PV.int .i64 ((L.length : Int) - 1 - i), .agg [.int .i64 (L.getD (L.length - 1 - i) default).1, .int .i64 (L.getD (L.length - 1 - i) default).2]] := by
      simp [List.getD, hi]
    rw [this]
    simp only [TR, VR, CR]
    exact ⟨_, _, rfl, rfl, _, _, rfl, ⟨_, rfl, _, _, rfl, rfl, rfl, _, _, rfl, rfl, rfl, rfl⟩, rfl⟩
  · rw [List.length_map, List.length_range]
    intro l J W hW hY h0
    have kc : ∀ k, W.cell? ⟨pb, k, none⟩ = w.cell? ⟨pb, k, none⟩ := fun k => by simp [World.cell?, hW.2 pb hpb hpd]
    rcases ha with h0' | ⟨b, o, rfl, hb, hd, _, hmem⟩
    · rw [h0'] at hB ⊢
      exact back0 l pb po cap a J W (by rw [kc]; exact hB) h0
    · subst hx
      have hget : ∀ j, j < L.length → (L.flatMap spI)[j * 2]? = some (L.getD j default).1 ∧ (L.flatMap spI)[j * 2 + 1]? = some (L.getD j default).2 := fun j hj => by
        have := fun i hi => flat_getI L (i := j) (j := i) hj hi
        exact ⟨this 0 (by decide), this 1 (by decide)⟩
      refine back1 w h l pb po b o L.length cap (fun j => (L.getD j default).1) (fun j => (L.getD j default).2) hl hpb hpd hb hd J hY W hW hB (fun j hj => ?_) (fun j hj => ?_) h0
      · have := hmem (j * 2) (.int .i64 (L.getD j default).1) (by rw [List.getElem?_map, (hget j hj).1]; rfl)
        exact this
      · have := hmem (j * 2 + 1) (.int .i64 (L.getD j default).2) (by rw [List.getElem?_map, (hget j hj).2]; rfl)
        exact this
end Go.Proofs.Ytjabiegaeflhjaa
