/-
  An abstract machine over pure values, part U: a live row of numbers that the library has sorted.
  Conditions: none but those that each sentence tells.
-/
import Derived.Test.YtdllafendiaplaaPmT
import Derived.Sort.Grow
import Derived.Shelf.Lays
namespace Go.Pm
open Go.RowKit Go.Sort Go.Shelf
set_option linter.unusedVariables false
set_option linter.unusedSimpArgs false

theorem CR_ints {w : World} {h : Heap} {N : Nat} : ∀ (X : List Int) {vs : List Value}, CR w h N (X.map (.int .i64)) vs → vs = X.map (Value.int .i64)
  | [], vs, e => by simpa [CR] using e
  | x :: X, vs, e => by
    simp only [List.map_cons, CR, VR] at e
    obtain ⟨v, vs', rfl, _, rfl, h2⟩ := e
    rw [CR_ints X h2]; rfl
theorem ints_CR {w : World} {h : Heap} {N : Nat} : ∀ (X : List Int), CR w h N (X.map (.int .i64)) (X.map (Value.int .i64))
  | [] => by simp [CR]
  | x :: X => by
    simp only [List.map_cons, CR, VR]
    exact ⟨_, _, rfl, rfl, rfl, ints_CR X⟩
/-- The cells that a live row of numbers lies in, as the library's sort asks for them. -/
theorem holds_live {w : World} {h : Heap} {b : Nat} {X : List Int} (hw : WR w h 0) (hb : h.f b = some (X.map (.int .i64))) : Holds (Value.int .i64) w b 0 X.toArray := by
  obtain ⟨cells, e, hc, hcl, hcc⟩ := hw b _ hb
  have hx := CR_ints X hcc
  simp only [List.length_map] at hx hcl
  intro j hj
  simp only [List.size_toArray] at hj
  refine ⟨?_, by simp [World.frozen?, hc]⟩
  simp only [World.cell?, hc, Nat.zero_add]
  have h1 : (cells.toList.take X.length)[j]? = cells[j]? := by
    rw [List.getElem?_take, if_pos hj, Array.getElem?_toList]
  skip
  rw [← h1, hx, List.getElem?_map, List.getElem?_eq_getElem hj]
  simp [hj]
theorem sort_live {w : World} {h : Heap} {b : Nat} {X Y : List Int} (hw : WR w h 0) (hb : h.f b = some (X.map (.int .i64))) (hl : Y.length = X.length) (n : Nat) (os : Array Obj) :
    St w h (grow (putRow (Value.int .i64) (Go.Sort.ahead w n) b 0 Y.toArray) os) (h.set b (Y.map (.int .i64))) ∧ WR (grow (putRow (Value.int .i64) (Go.Sort.ahead w n) b 0 Y.toArray) os) (h.set b (Y.map (.int .i64))) 0 := by
  obtain ⟨cells, e, hc, hcl, hcc⟩ := hw b _ hb
  have hlt := hw.lt hb
  simp only [List.length_map] at hcl
  have new : (grow (putRow (Value.int .i64) (Go.Sort.ahead w n) b 0 Y.toArray) os).heap[b]? = some (.cells (putCells (Value.int .i64) 0 Y.toArray cells) e (0, 0)) := by
    rw [heap_grow_old _ _ (by simpa [Go.Sort.ahead] using hlt)]
    simp [putRow, mapBlock, Go.Sort.ahead, Array.getElem?_modify, hc, onCells]
  have old : ∀ x, x < w.heap.size → x ≠ b → (grow (putRow (Value.int .i64) (Go.Sort.ahead w n) b 0 Y.toArray) os).heap[x]? = w.heap[x]? := fun x hx hne => by
    rw [heap_grow_old _ _ (by simpa [Go.Sort.ahead] using hx)]
    simp [putRow, mapBlock, Go.Sort.ahead, Array.getElem?_modify, Ne.symm hne]
  have sz : (putCells (Value.int .i64) 0 Y.toArray cells).size = cells.size := by simp [putCells]
  have hst : St w h (grow (putRow (Value.int .i64) (Go.Sort.ahead w n) b 0 Y.toArray) os) (h.set b (Y.map (.int .i64))) := by
    refine ⟨rfl, rfl, rfl, by simp [Go.Sort.ahead], fun x hx hd => ?_, fun x hx hd => ?_, fun x c t fz hx => ?_⟩
    · exact old x hx fun ee => by rw [ee, hb] at hd; cases hd
    · rw [h.set_ne _ fun ee => by rw [ee, hb] at hd; cases hd]; exact hd
    · by_cases ee : x = b
      · subst ee
        rw [hc] at hx
        cases hx
        exact ⟨_, _, new, sz⟩
      · exact ⟨c, fz, by rw [old x (Array.getElem?_eq_some_iff.1 hx).1 ee]; exact hx, rfl⟩
  refine ⟨hst, hw.step hst.kp (Nat.le_refl _) fun x ds hx => ?_⟩
  by_cases ee : x = b
  · subst ee
    rw [h.set_same] at hx
    cases hx
    refine .inr ⟨_, e, new, by rw [sz, List.length_map]; omega, ?_⟩
    have : (putCells (Value.int .i64) 0 Y.toArray cells).toList.take (Y.map (PV.int .i64)).length = Y.map (Value.int .i64) := by
      apply List.ext_getElem?
      intro i
      rw [List.getElem?_take, List.length_map, Array.getElem?_toList]
      simp only [putCells, Array.getElem?_mapIdx, List.getElem?_map, List.size_toArray, Nat.zero_add, Nat.zero_le, true_and, Nat.sub_zero]
      by_cases hi : i < Y.length
      · have : i < cells.size := by omega
        rw [if_pos hi, Array.getElem?_eq_getElem this, Option.map_some, if_pos hi, List.getElem?_eq_getElem hi]
        simp [hi]
      · rw [if_neg hi, List.getElem?_eq_none (by omega)]; rfl
    rw [this]
    exact ints_CR Y
  · rw [h.set_ne _ ee] at hx
    exact .inl ⟨hx, old x (hw.lt hx) ee⟩
/-- What the library's sort promises of a row of numbers. -/
def SortsInts (P : Program) (f : FuncId) : Prop := ∀ (blk off cap : Nat) (zs : List Int) (w : World), Holds (Value.int .i64) w blk off zs.toArray → blk < w.heap.size → zs.length < 4611686018427387904 →
    Calls P f #[.slice (some ⟨blk, off, none⟩) zs.length cap] w fun e w' =>
      e = .returned (.tuple #[]) ∧ ∃ n os, w' = grow (putRow (Value.int .i64) (Go.Sort.ahead w n) blk off (zs.mergeSort fun x y => decide (x ≤ y)).toArray) os
theorem SortsInts.can {P : Program} {f : FuncId} (s : SortsInts P f) (hf : ∃ fn, P.funcs[f]? = some fn ∧ (fn.name == "runtime.NumGoroutine") = false ∧ fn.body.isNone = false) (X : List Int) (hl : X.length ≤ 1000000) (b : Nat) (h : Heap) (hb : h.f b = some (X.map (.int .i64)))
    {K : PV → Heap → Prop} (k : K (.tup []) (h.set b ((X.mergeSort fun x y => decide (x ≤ y)).map (.int .i64)))) : CanP P f [.buf b 1 0 X.length] h K :=
  ⟨hf, fun w cargs hw ha => by
    simp only [TR, VR] at ha
    obtain ⟨v, vs', h1, ⟨c, rfl, _, _, _⟩, rfl⟩ := ha
    obtain rfl : cargs = #[.slice (some ⟨b, 0, none⟩) X.length c] := by
      apply Array.toList_inj.1; exact h1
    refine (s b 0 c X w (holds_live hw hb) (hw.lt hb) (by omega)).mono ?_
    rintro e w' ⟨rfl, n, os, rfl⟩
    obtain ⟨q1, q2⟩ := sort_live (Y := X.mergeSort fun x y => decide (x ≤ y)) hw hb (by simp) n os
    exact ⟨.tup [], _, _, rfl, q1, q2, by simp [VR, TR], k⟩⟩
/-- What the library's Grow promises of no row at all. -/
def GrowsNil (P : Program) (f : FuncId) : Prop := (∀ w, Calls P f #[.slice none 0 0, .int .i64 0] w fun e w' => e = .returned (.slice none 0 0) ∧ w' = w) ∧
  ∀ (n : Nat) (w : World), 0 < n → n ≤ 100000000 → Calls P f #[.slice none 0 0, .int .i64 n] w fun e w' => ∃ (G : Nat) (cells : Array Value) (t : TypeId), e = .returned (.slice (some ⟨w.heap.size, 0, none⟩) 0 G) ∧ w' = w.drew.alloc (.cells cells t) ∧ cells.size = G ∧ G ≤ maxLen
theorem GrowsNil.can {P : Program} {f : FuncId} (s : GrowsNil P f) (hf : ∃ fn, P.funcs[f]? = some fn ∧ (fn.name == "runtime.NumGoroutine") = false ∧ fn.body.isNone = false) (n : Nat) (hn : n ≤ 100000000) (h : Heap)
    {K : PV → Heap → Prop} (k0 : n = 0 → K .nils h) (k : n ≠ 0 → ∀ b, h.f b = none → K (.buf b 1 0 0) (h.set b [])) : CanP P f [.nils, .int .i64 n] h K :=
  ⟨hf, fun w cargs hw ha => by
    simp only [TR, VR] at ha
    obtain ⟨v, vs', h1, rfl, v2, vs2, rfl, rfl, rfl⟩ := ha
    obtain rfl : cargs = #[.slice none 0 0, .int .i64 n] := by
      apply Array.toList_inj.1; exact h1
    rcases Nat.eq_zero_or_pos n with rfl | hpos
    · refine (s.1 w).mono ?_
      rintro e w' ⟨rfl, rfl⟩
      exact ⟨.nils, _, _, rfl, St.refl _ _, hw, by simp [VR], k0 rfl⟩
    · refine (s.2 n w hpos hn).mono ?_
      rintro e w' ⟨G, cells, t, rfl, rfl, hc, hG⟩
      have hfree : h.f w.heap.size = none := hw.free (Nat.le_refl _)
      refine ⟨.buf w.heap.size 1 0 0, _, h.set w.heap.size [], rfl, ?_, ?_, ?_, k (by omega) _ hfree⟩
      · exact (St.drew w h).trans (St.alloc w.drew h _ _ fun b hb => h.set_ne _ hb)
      · exact (hw.drew).alloc_live cells t [] (Nat.zero_le _) (by simp [CR])
      · simp only [VR]
        refine ⟨G, rfl, Nat.zero_le _, hG, ?_⟩
        rw [Nat.zero_add, Nat.mul_one, ← hc]
        exact Room.new w.drew cells t⟩
end Go.Pm
