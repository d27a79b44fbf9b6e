/-
  An abstract machine over pure values, part U: a live row of numbers that the library has sorted.
  Conditions: none but those that each sentence tells.
-/
import Derived.Test.YtcgaphmndnmfdaaGreatPmT
import Derived.Sort.Grow
import Derived.Shelf.Lays
import Derived.RangeFuncFrom
import Derived.RangeFuncLeaves
import Derived.Sort.LoopGhostIn
namespace Go.Pm
open Go.RowKit Go.Sort Go.Shelf
set_option linter.unusedVariables false
set_option linter.unusedSimpArgs false

theorem CR_ints {w : World} {h : Heap} {N : Nat} : ∀ (X : List Int) {vs : List Value}, CR w h N (X.map (.int .i64)) vs → vs = X.map (Value.int .i64)
  | [], vs, e => by simpa [CR] using e
  | x :: X, vs, e => by
    simp only [List.map_cons, CR, VR] at e
    obtain ⟨v, vs', rfl, _, rfl, h2⟩ := e
    rw [CR_ints X h2]; rfl
theorem ints_CR {w : World} {h : Heap} {N : Nat} : ∀ (X : List Int), CR w h N (X.map (.int .i64)) (X.map (Value.int .i64))
  | [] => by simp [CR]
  | x :: X => by
    simp only [List.map_cons, CR, VR]
    exact ⟨_, _, rfl, rfl, rfl, ints_CR X⟩
/-- The cells that a live row of numbers lies in, as the library's sort asks for them. -/
theorem holds_live {w : World} {h : Heap} {b : Nat} {X : List Int} (hw : WR w h 0) (hb : h.f b = some (X.map (.int .i64))) : Holds (Value.int .i64) w b 0 X.toArray := by
  obtain ⟨cells, e, hc, hcl, hcc⟩ := hw b _ hb
  have hx := CR_ints X hcc
  simp only [List.length_map] at hx hcl
  intro j hj
  simp only [List.size_toArray] at hj
  refine ⟨?_, by simp [World.frozen?, hc]⟩
  simp only [World.cell?, hc, Nat.zero_add]
  have h1 : (cells.toList.take X.length)[j]? = cells[j]? := by
    rw [List.getElem?_take, if_pos hj, Array.getElem?_toList]
  skip
  rw [← h1, hx, List.getElem?_map, List.getElem?_eq_getElem hj]
  simp [hj]
theorem sort_live {w : World} {h : Heap} {b : Nat} {X Y : List Int} (hw : WR w h 0) (hb : h.f b = some (X.map (.int .i64))) (hl : Y.length = X.length) (n : Nat) (os : Array Obj) :
    St w h (grow (putRow (Value.int .i64) (Go.Sort.ahead w n) b 0 Y.toArray) os) (h.set b (Y.map (.int .i64))) ∧ WR (grow (putRow (Value.int .i64) (Go.Sort.ahead w n) b 0 Y.toArray) os) (h.set b (Y.map (.int .i64))) 0 := by
  obtain ⟨cells, e, hc, hcl, hcc⟩ := hw b _ hb
  have hlt := hw.lt hb
  simp only [List.length_map] at hcl
  have new : (grow (putRow (Value.int .i64) (Go.Sort.ahead w n) b 0 Y.toArray) os).heap[b]? = some (.cells (putCells (Value.int .i64) 0 Y.toArray cells) e (0, 0)) := by
    rw [heap_grow_old _ _ (by simpa [Go.Sort.ahead] using hlt)]
    simp [putRow, mapBlock, Go.Sort.ahead, Array.getElem?_modify, hc, onCells]
  have old : ∀ x, x < w.heap.size → x ≠ b → (grow (putRow (Value.int .i64) (Go.Sort.ahead w n) b 0 Y.toArray) os).heap[x]? = w.heap[x]? := fun x hx hne => by
    rw [heap_grow_old _ _ (by simpa [Go.Sort.ahead] using hx)]
    simp [putRow, mapBlock, Go.Sort.ahead, Array.getElem?_modify, Ne.symm hne]
  have sz : (putCells (Value.int .i64) 0 Y.toArray cells).size = cells.size := by simp [putCells]
  have hst : St w h (grow (putRow (Value.int .i64) (Go.Sort.ahead w n) b 0 Y.toArray) os) (h.set b (Y.map (.int .i64))) := by
    refine ⟨rfl, rfl, rfl, by simp [Go.Sort.ahead], fun x hx hd => ?_, fun x hx hd => ?_, fun x c t fz hx => ?_⟩
    · exact old x hx fun ee => by rw [ee, hb] at hd; cases hd
    · rw [h.set_ne _ fun ee => by rw [ee, hb] at hd; cases hd]; exact hd
    · by_cases ee : x = b
      · subst ee
        rw [hc] at hx
        cases hx
        exact ⟨_, _, new, sz⟩
      · exact ⟨c, fz, by rw [old x (Array.getElem?_eq_some_iff.1 hx).1 ee]; exact hx, rfl⟩
  refine ⟨hst, hw.step hst.kp (Nat.le_refl _) fun x ds hx => ?_⟩
  by_cases ee : x = b
  · subst ee
    rw [h.set_same] at hx
    cases hx
    refine .inr ⟨_, e, new, by rw [sz, List.length_map]; omega, ?_⟩
    have : (putCells (Value.int .i64) 0 Y.toArray cells).toList.take (Y.map (PV.int .i64)).length = Y.map (Value.int .i64) := by
      apply List.ext_getElem?
      intro i
      rw [List.getElem?_take, List.length_map, Array.getElem?_toList]
      simp only [putCells, Array.getElem?_mapIdx, List.getElem?_map, List.size_toArray, Nat.zero_add, Nat.zero_le, true_and, Nat.sub_zero]
      by_cases hi : i < Y.length
      · have : i < cells.size := by omega
        rw [if_pos hi, Array.getElem?_eq_getElem this, Option.map_some, if_pos hi, List.getElem?_eq_getElem hi]
        simp [hi]
      · rw [if_neg hi, List.getElem?_eq_none (by omega)]; rfl
    rw [this]
    exact ints_CR Y
  · rw [h.set_ne _ ee] at hx
    exact .inl ⟨hx, old x (hw.lt hx) ee⟩
/-- What the library's sort promises of a row of numbers. -/
def SortsInts (P : Program) (f : FuncId) : Prop := ∀ (blk off cap : Nat) (zs : List Int) (w : World), Holds (Value.int .i64) w blk off zs.toArray → blk < w.heap.size → zs.length < 4611686018427387904 →
    Calls P f #[.slice (some ⟨blk, off, none⟩) zs.length cap] w fun e w' =>
      e = .returned (.tuple #[]) ∧ ∃ n os, w' = grow (putRow (Value.int .i64) (Go.Sort.ahead w n) blk off (zs.mergeSort fun x y => decide (x ≤ y)).toArray) os
theorem SortsInts.can {P : Program} {f : FuncId} (s : SortsInts P f) (hf : ∃ fn, P.funcs[f]? = some fn ∧ (fn.name == "runtime.NumGoroutine") = false ∧ fn.body.isNone = false) (X : List Int) (hl : X.length ≤ 1000000) (b : Nat) (h : Heap) (hb : h.f b = some (X.map (.int .i64)))
    {K : PV → Heap → Prop} (k : K (.tup []) (h.set b ((X.mergeSort fun x y => decide (x ≤ y)).map (.int .i64)))) : CanP P f [.buf b 1 0 X.length] h K :=
  ⟨hf, fun w cargs hw ha => by
    simp only [TR, VR] at ha
    obtain ⟨v, vs', h1, ⟨c, rfl, _, _, _⟩, rfl⟩ := ha
    obtain rfl : cargs = #[.slice (some ⟨b, 0, none⟩) X.length c] := by
      apply Array.toList_inj.1; exact h1
    refine (s b 0 c X w (holds_live hw hb) (hw.lt hb) (by omega)).mono ?_
    rintro e w' ⟨rfl, n, os, rfl⟩
    obtain ⟨q1, q2⟩ := sort_live (Y := X.mergeSort fun x y => decide (x ≤ y)) hw hb (by simp) n os
    exact ⟨.tup [], _, _, rfl, q1, q2, by simp [VR, TR], k⟩⟩
/-- What the library's Grow promises of no row at all. -/
def GrowsNil (P : Program) (f : FuncId) : Prop := (∀ w, Calls P f #[.slice none 0 0, .int .i64 0] w fun e w' => e = .returned (.slice none 0 0) ∧ w' = w) ∧
  ∀ (n : Nat) (w : World), 0 < n → n ≤ 100000000 → Calls P f #[.slice none 0 0, .int .i64 n] w fun e w' => ∃ (G : Nat) (cells : Array Value) (t : TypeId), e = .returned (.slice (some ⟨w.heap.size, 0, none⟩) 0 G) ∧ w' = w.drew.alloc (.cells cells t) ∧ cells.size = G ∧ G ≤ maxLen
theorem GrowsNil.can {P : Program} {f : FuncId} (s : GrowsNil P f) (hf : ∃ fn, P.funcs[f]? = some fn ∧ (fn.name == "runtime.NumGoroutine") = false ∧ fn.body.isNone = false) (n : Nat) (hn : n ≤ 100000000) (h : Heap)
    {K : PV → Heap → Prop} (k0 : n = 0 → K .nils h) (k : n ≠ 0 → ∀ b, h.f b = none → K (.buf b 1 0 0) (h.set b [])) : CanP P f [.nils, .int .i64 n] h K :=
  ⟨hf, fun w cargs hw ha => by
    simp only [TR, VR] at ha
    obtain ⟨v, vs', h1, rfl, v2, vs2, rfl, rfl, rfl⟩ := ha
    obtain rfl : cargs = #[.slice none 0 0, .int .i64 n] := by
      apply Array.toList_inj.1; exact h1
    rcases Nat.eq_zero_or_pos n with rfl | hpos
    · refine (s.1 w).mono ?_
      rintro e w' ⟨rfl, rfl⟩
      exact ⟨.nils, _, _, rfl, St.refl _ _, hw, by simp [VR], k0 rfl⟩
    · refine (s.2 n w hpos hn).mono ?_
      rintro e w' ⟨G, cells, t, rfl, rfl, hc, hG⟩
      have hfree : h.f w.heap.size = none := hw.free (Nat.le_refl _)
      refine ⟨.buf w.heap.size 1 0 0, _, h.set w.heap.size [], rfl, ?_, ?_, ?_, k (by omega) _ hfree⟩
      · exact (St.drew w h).trans (St.alloc w.drew h _ _ fun b hb => h.set_ne _ hb)
      · exact (hw.drew).alloc_live cells t [] (Nat.zero_le _) (by simp [CR])
      · simp only [VR]
        refine ⟨G, rfl, Nat.zero_le _, hG, ?_⟩
        rw [Nat.zero_add, Nat.mul_one, ← hc]
        exact Room.new w.drew cells t⟩
end Go.Pm

/-
  An abstract machine over pure values, part V: what no cells are may turn; code within a round of a range over a function; a function that holds such a loop.
  Conditions: none but those that each sentence tells.
-/
namespace Go.Pm
open Go.RowKit
set_option linter.unusedVariables false
set_option linter.unusedSimpArgs false

/-- As 'Kp', but what is no cells may turn. -/
structure Kn (w : World) (h : Heap) (w' : World) (h' : Heap) : Prop where
  size : w.heap.size ≤ w'.heap.size
  keep : ∀ (b : Nat) (cells : Array Value) (e : TypeId) (fz : Nat × Nat), w.heap[b]? = some (Obj.cells cells e fz) → h.f b = none → w'.heap[b]? = w.heap[b]?
  dead : ∀ b, b < w.heap.size → h.f b = none → h'.f b = none
  shape : ∀ (b : Nat) (cells : Array Value) (e : TypeId) (fz : Nat × Nat), w.heap[b]? = some (Obj.cells cells e fz) → ∃ cells' fz', w'.heap[b]? = some (Obj.cells cells' e fz') ∧ cells'.size = cells.size
theorem Mem.of_cells {w w' : World} {b o : Nat} {vs : List Value} (m : Mem w b o vs) (hk : ∀ (c : Array Value) (e : TypeId) (fz : Nat × Nat), w.heap[b]? = some (Obj.cells c e fz) → w'.heap[b]? = w.heap[b]?) : Mem w' b o vs := fun i v hi => by
  have h1 := m i v hi
  obtain ⟨c, e, fz, hb, hc⟩ := Go.Sort.cells_of_cell? h1
  rw [← h1]
  simp [World.cell?, hk c e fz hb]
mutual
theorem VR.stepN {w w' : World} {h h' : Heap} {N N' : Nat} (s : Kn w h w' h') (hN : N' ≤ N) : ∀ (c : PV) {v : Value}, VR w h N c v → VR w' h' N' c v
  | .int k n, v, e => by simpa only [VR] using e
  | .bool b, v, e => by simpa only [VR] using e
  | .str b, v, e => by simpa only [VR] using e
  | .nils, v, e => by simpa only [VR] using e
  | .nilp, v, e => by simpa only [VR] using e
  | .nilf, v, e => by simpa only [VR] using e
  | .undef, v, e => by simp only [VR]
  | .anyb, v, e => by simpa only [VR] using e
  | .ptr b o, v, e => by simpa only [VR] using e
  | .agg cs, v, e => by
    simp only [VR] at e ⊢
    obtain ⟨vs, rfl, h1⟩ := e
    exact ⟨vs, rfl, CR.stepN s hN cs h1⟩
  | .tup cs, v, e => by
    simp only [VR] at e ⊢
    obtain ⟨vs, rfl, h1⟩ := e
    exact ⟨vs, rfl, TR.stepN s hN cs h1⟩
  | .fn f first caps, v, e => by
    simp only [VR] at e ⊢
    obtain ⟨fs, cv, rfl, h1, h2⟩ := e
    exact ⟨fs, cv, rfl, TR.stepN s hN first h1, TR.stepN s hN caps h2⟩
  | .buf b E off n, v, e => by
    simp only [VR] at e ⊢
    obtain ⟨c, rfl, h1, h0, h2⟩ := e
    exact ⟨c, rfl, h1, h0, h2.step s.shape⟩
  | .list fr E n cs, v, e => by
    simp only [VR] at e ⊢
    obtain ⟨a, c, vs, rfl, h1, h2, h3, h4⟩ := e
    refine ⟨a, c, vs, rfl, h1, h2, CR.stepN s hN cs h3, ?_⟩
    rcases h4 with h4 | ⟨b, o, ha, hb, hd, hf, hm⟩
    · exact .inl h4
    · exact .inr ⟨b, o, ha, Nat.lt_of_lt_of_le hb s.size, s.dead b hb hd, fun q => Nat.le_trans hN (hf q), hm.of_cells fun c e fz q => s.keep b c e fz q hd⟩
  | .fptr fr cs off, v, e => by
    simp only [VR] at e ⊢
    obtain ⟨b, o, vs, rfl, hb, hd, hf, h3, hm⟩ := e
    exact ⟨b, o, vs, rfl, Nat.lt_of_lt_of_le hb s.size, s.dead b hb hd, fun q => Nat.le_trans hN (hf q), CR.stepN s hN cs h3, hm.of_cells fun c e fz q => s.keep b c e fz q hd⟩
theorem CR.stepN {w w' : World} {h h' : Heap} {N N' : Nat} (s : Kn w h w' h') (hN : N' ≤ N) : ∀ (cs : List PV) {vs : List Value}, CR w h N cs vs → CR w' h' N' cs vs
  | [], vs, e => by simpa only [CR] using e
  | c :: cs, vs, e => by
    simp only [CR] at e ⊢
    obtain ⟨v, vs', rfl, h0, h1, h2⟩ := e
    exact ⟨v, vs', rfl, h0, VR.stepN s hN c h1, CR.stepN s hN cs h2⟩
theorem TR.stepN {w w' : World} {h h' : Heap} {N N' : Nat} (s : Kn w h w' h') (hN : N' ≤ N) : ∀ (cs : List PV) {vs : List Value}, TR w h N cs vs → TR w' h' N' cs vs
  | [], vs, e => by simpa only [TR] using e
  | c :: cs, vs, e => by
    simp only [TR] at e ⊢
    obtain ⟨v, vs', rfl, h1, h2⟩ := e
    exact ⟨v, vs', rfl, VR.stepN s hN c h1, TR.stepN s hN cs h2⟩
end
theorem WR.stepN {w w' : World} {h : Heap} {N : Nat} (k : Kn w h w' h) (hw : WR w h N) (hs : ∀ b cs, h.f b = some cs → w'.heap[b]? = w.heap[b]?) : WR w' h N := fun b cs e => by
  obtain ⟨cells, t, hb, hl, hc⟩ := hw b cs e
  exact ⟨cells, t, by rw [hs b cs e]; exact hb, hl, CR.stepN k (Nat.le_refl _) cs hc⟩
/-- One block that is no cells turns, and new ones are laid. -/
theorem Kn.grown {w w' : World} {h : Heap} {row : Option Nat} (hg : w.grownBy w' row) (hrow : ∀ r, row = some r → ∃ o : Obj, w.heap[r]? = some o ∧ o.isCells = false) : Kn w h w' h := by
  have same : ∀ (b : Nat) (c : Array Value) (e : TypeId) (fz : Nat × Nat), w.heap[b]? = some (Obj.cells c e fz) → w'.heap[b]? = w.heap[b]? := fun b c e fz hb =>
    hg.block b (Array.getElem?_eq_some_iff.1 hb).1 fun er => by
      obtain ⟨o, ho, hc⟩ := hrow b er.symm
      rw [hb] at ho; cases ho; cases hc
  exact ⟨hg.size, fun b c e fz hb _ => same b c e fz hb, fun _ _ e => e, fun b c e fz hb => ⟨c, fz, by rw [same b c e fz hb]; exact hb, rfl⟩⟩
theorem WR.grown {w w' : World} {h : Heap} {N : Nat} {row : Option Nat} (hw : WR w h N) (hg : w.grownBy w' row) (hrow : ∀ r, row = some r → ∃ o : Obj, w.heap[r]? = some o ∧ o.isCells = false) : WR w' h N :=
  hw.stepN (Kn.grown hg hrow) fun b cs e => by
    obtain ⟨cells, t, hb, _⟩ := hw b cs e
    exact hg.block b (Array.getElem?_eq_some_iff.1 hb).1 fun er => by
      obtain ⟨o, ho, hc⟩ := hrow b er.symm
      rw [hb] at ho; cases ho; cases hc
theorem St.grown {w0 w w' : World} {h0 h : Heap} {row : Option Nat} (s : St w0 h0 w h) (hg : w.grownBy w' row) (hrow : ∀ r, row = some r → w0.heap.size ≤ r) : St w0 h0 w' h where
  os := hg.os.trans s.os
  tape := hg.tape.trans s.tape
  output := hg.output.trans s.output
  size := Nat.le_trans s.size hg.size
  keep b hb e := (hg.block b (Nat.lt_of_lt_of_le hb s.size) fun er => by have := hrow b er.symm; omega).trans (s.keep b hb e)
  dead := s.dead
  shape b c e fz hb := by
    obtain ⟨c1, f1, h1, s1⟩ := s.shape b c e fz hb
    have hlt := (Array.getElem?_eq_some_iff.1 hb).1
    exact ⟨c1, f1, by rw [hg.block b (Nat.lt_of_lt_of_le hlt s.size) fun er => by have := hrow b er.symm; omega]; exact h1, s1⟩
/-- What is not live stays. -/
def KpD (w : World) (h : Heap) (A B : World) : Prop := A.heap.size ≤ B.heap.size ∧ ∀ b, b < w.heap.size → h.f b = none → B.heap[b]? = A.heap[b]?
theorem KpD.refl (w : World) (h : Heap) (A : World) : KpD w h A A := ⟨Nat.le_refl _, fun _ _ _ => rfl⟩
theorem KpD.trans {w : World} {h : Heap} {A B C : World} (k : KpD w h A B) (l : KpD w h B C) : KpD w h A C := ⟨Nat.le_trans k.1 l.1, fun b hb e => (l.2 b hb e).trans (k.2 b hb e)⟩
theorem KpD.put (w : World) (h : Heap) (A : World) {l : Nat} (o : Obj) (hl : w.heap.size ≤ l) : KpD w h A (A.putObj l o) := ⟨by simp, fun b hb _ => World.putObj_heap_other (by omega)⟩
theorem KpD.st {w : World} {h hA hB : Heap} {A B : World} (a : St w h A hA) (s : St A hA B hB) : KpD w h A B := ⟨s.size, fun b hb e => s.keep b (Nat.lt_of_lt_of_le hb a.size) (a.dead b hb e)⟩
theorem keeps_st {hA hB : Heap} {A B : World} (wr : WR A hA 0) (s : St A hA B hB) {k : Nat} {o : Obj} (ho : A.heap[k]? = some o) (hc : o.isCells = false) : B.heap[k]? = some o := by
  have hlt := (Array.getElem?_eq_some_iff.1 ho).1
  rw [s.keep k hlt ?_]; exact ho
  cases e : hA.f k with
  | none => rfl
  | some cs =>
    obtain ⟨c, t, hb, _⟩ := wr k cs e
    rw [hb] at ho; cases ho; cases hc

/-! ### Regions within a round, and behind a mark -/
def noDef (ops : Array Oper) : Bool := ops.all fun o => match o.op with | .defer _ => false | _ => true
theorem ops_in {P : Program} {m : Nat} {ops : Array Oper} {Q : Exit → Act → World → Prop} (ro : Option Nat) (ds : List Deferred) (hnd : noDef ops = true) (hlo : ∀ a w, ¬ Q .outgrown a w) :
    ∀ (is : List Nat) (a : Act) (w : World), wpOps P ops Q is a w → wpOpsIn { Fence.wide with round := ro } m P ops (fun e b v => ∃ c, Q e c v ∧ b = { c with defers := c.defers ++ ds }) is { a with defers := a.defers ++ ds } w
  | [], a, w, h => ⟨a, h, rfl⟩
  | i :: rest, a, w, h => by
    have ih := ops_in (P := P) (m := m) (Q := Q) ro ds hnd hlo rest
    simp only [wpOps, wpOpsIn] at h ⊢
    cases ho : ops[i]? with
    | none => simp only [ho] at h; exact ih a w h
    | some o =>
      simp only [ho] at h ⊢
      have hev : ({ a with defers := a.defers ++ ds } : Act).eval = a.eval := rfl
      have hnd' : ∀ c, o.op ≠ .defer c := fun c e => by
        have := Array.all_eq_true.1 hnd i (Array.getElem?_eq_some_iff.1 ho).1
        rw [(Array.getElem?_eq_some_iff.1 ho).2, e] at this
        cases this
      by_cases hw : Region.wanted o (yielded ops a.tmps) = true
      · rw [if_pos hw] at h ⊢
        rcases h with h | ⟨_, a', w', hq⟩
        · refine ⟨fun _ _ => trivial, ?_⟩
          rw [hev, Oper.semAt_eq _ _ _ hnd']
          unfold Oper.wp at h
          have put : ∀ v, ({ a with defers := a.defers ++ ds } : Act).put o.dst v = { (a.put o.dst v) with defers := (a.put o.dst v).defers ++ ds } := fun v => by
            cases hd : o.dst <;> simp [Act.put]
          generalize (execOp a.eval o).run P w = r at *
          cases r with
          | ok x w' =>
            cases x with
            | value v => simp only [Oper.upon, Oper.uponIn] at h ⊢; rw [put]; exact ih _ _ h
            | skip => simp only [Oper.upon, Oper.uponIn] at h ⊢; rw [put]; exact ih _ _ h
            | defer d =>
              simp only [Oper.upon, Oper.uponIn] at h ⊢
              have e2 : (({ ({ a with defers := a.defers ++ ds } : Act) with defers := d :: (a.defers ++ ds) } : Act).put o.dst undef) = { (({ a with defers := d :: a.defers } : Act).put o.dst undef) with defers := (({ a with defers := d :: a.defers } : Act).put o.dst undef).defers ++ ds } := by
                cases hd : o.dst <;> simp [Act.put]
              have := ih _ _ h
              rw [← e2] at this
              exact this
            | enter f args =>
              simp only [Oper.upon, Oper.uponIn] at h ⊢
              refine ⟨fun q => by simp [Fence.wide] at q, ?_⟩
              show CallsIn Fence.wide (m - 1) P f args w' _
              refine callsIn_wide.2 (Calls.mono h fun e w'' he => ?_)
              cases e with
              | returned v => simp only at he ⊢; rw [put]; exact ih _ _ he
              | panicked ch => exact ⟨a, he, rfl⟩
              | outgrown => obtain ⟨a1, w1, q⟩ := he; exact absurd q (hlo _ _)
            | row row args =>
              simp only [Oper.upon, Oper.uponIn] at h ⊢
              refine ⟨fun q => by simp [Fence.wide] at q, fun c cs _ => ?_⟩
              obtain ⟨v, w2, r1, r2⟩ := h c cs
              refine ⟨v, w2, ?_, stepsIn_wide.2 r2⟩
              simp only []
              rw [put]; exact ih _ _ r1
            | _ => simp only [Oper.upon] at h
          | halt x w' =>
            cases x <;> simp only [Oper.upon, Oper.uponIn] at h ⊢
            exact ⟨a, h, rfl⟩
        · exact absurd hq (hlo _ _)
      · rw [if_neg hw] at h ⊢
        refine ⟨fun _ _ => trivial, ?_⟩
        have put : ({ a with defers := a.defers ++ ds } : Act).put o.dst undef = { (a.put o.dst undef) with defers := (a.put o.dst undef).defers ++ ds } := by
          cases hd : o.dst <;> simp [Act.put]
        rw [put]; exact ih _ _ h
/-! ### Code within a round -/
/-- Code of a round, from a state over pure values, comes to what `Q` tells of. -/
def SWR (P : Program) (n l m : Nat) (c : Code) (Q : Exit → Sl → Heap → Prop) (σ : Sl) (h : Heap) : Prop :=
  ∀ (w0 : World) (h0 : Heap) (a : Act) (w : World), Rl w0 h0 n σ h a w → c.wpIn (Fence.wide.inRound l) m P (fun e a' w' => ∃ σ' h', Rl w0 h0 n σ' h' a' w' ∧ Q e σ' h') a w
def rok : Code → Bool
  | .skip => true
  | .exit _ => true
  | .region _ ops _ => noDef ops
  | .seq a b => rok a && rok b
  | .cond _ a b => rok a && rok b
  | .block _ a => rok a
  | .loop a => rok a
  | _ => false
section
variable {P : Program} {n l m : Nat} {L : List Nat} {Q Q' : Exit → Sl → Heap → Prop} {σ : Sl} {h : Heap}
theorem SWR.mono {c : Code} (hq : ∀ e σ h, Q e σ h → Q' e σ h) (s : SWR P n l m c Q σ h) : SWR P n l m c Q' σ h := fun w0 h0 a w r =>
  wpIn_mono (s w0 h0 a w r) fun e a' w' ⟨σ', h', q1, q2⟩ => ⟨σ', h', q1, hq _ _ _ q2⟩
theorem swr_seq {x y : Code} (s : SWR P n l m x (thn (SWR P n l m y Q) Q) σ h) : SWR P n l m (.seq x y) Q σ h := fun w0 h0 a w r =>
  wpIn_seq (wpIn_mono (s w0 h0 a w r) fun e a' w' ⟨σ', h', q1, q2⟩ => by
    cases e with
    | normal => exact q2 w0 h0 a' w' q1
    | _ => exact ⟨σ', h', q1, q2⟩)
theorem swr_cond {c : Operand} {x y : Code} {t : Bool} (ok : okOp n c = true) (e : ev σ c = .bool t) (s : SWR P n l m (if t then x else y) Q σ h) : SWR P n l m (.cond c x y) Q σ h := fun w0 h0 a w r => by
  have hv := ev_sound r ok
  rw [e] at hv
  simp only [VR] at hv
  exact wpIn_cond hv (s w0 h0 a w r)
theorem swr_condA {c : Operand} {x y : Code} (ok : okOp n c = true) (e : ev σ c = .anyb) (s1 : SWR P n l m x Q σ h) (s2 : SWR P n l m y Q σ h) : SWR P n l m (.cond c x y) Q σ h := fun w0 h0 a w r => by
  have hv := ev_sound r ok
  rw [e] at hv
  simp only [VR] at hv
  obtain ⟨b, hv⟩ := hv
  exact wpIn_cond hv (by cases b; exact s2 w0 h0 a w r; exact s1 w0 h0 a w r)
theorem swr_block {id : Nat} {c : Code} (s : SWR P n l m c (blk id Q) σ h) : SWR P n l m (.block id c) Q σ h := fun w0 h0 a w r =>
  wpIn_block (wpIn_mono (s w0 h0 a w r) fun e a' w' ⟨σ', h', q1, q2⟩ => by
    cases e with
    | exit id' =>
      simp only [Exit.inBlock]
      simp only [blk] at q2
      split
      · rename_i e; rw [if_pos e] at q2; exact ⟨σ', h', q1, q2⟩
      · rename_i e; rw [if_neg e] at q2; exact ⟨σ', h', q1, q2⟩
    | _ => exact ⟨σ', h', q1, q2⟩)
theorem swr_loop {c : Code} (I : Nat → Sl → Heap → Prop) (k : Nat) (h1 : I k σ h)
    (round : ∀ k σ h, I k σ h → SWR P n l m c (thn (fun σ' h' => ∃ k', k' < k ∧ I k' σ' h') Q) σ h) : SWR P n l m (.loop c) Q σ h := fun w0 h0 a w r =>
  wpIn_loop_ghost (fun k a w => ∃ σ h, Rl w0 h0 n σ h a w ∧ I k σ h) k ⟨σ, h, r, h1⟩ fun k a w ⟨σ, h, r, hi⟩ =>
    wpIn_mono (round k σ h hi w0 h0 a w r) fun e a' w' ⟨σ', h', q1, q2⟩ => by
      cases e with
      | normal =>
        obtain ⟨k', q3, q4⟩ := q2
        exact ⟨k', q3, σ', h', q1, q4⟩
      | _ => exact ⟨σ', h', q1, q2⟩
theorem ops_round {ops : Array Oper} {Q : Exit → Act → World → Prop} {is : List Nat} {a : Act} {w : World} (hnd : noDef ops = true) (hlo : ∀ a w, ¬ Q .outgrown a w) (h : wpOps P ops Q is a w) : wpOpsIn (Fence.wide.inRound l) m P ops Q is a w := by
  have h2 := ops_in (m := m) (some l) [] hnd hlo is a w h
  have e : (fun e b v => ∃ c, Q e c v ∧ b = ({ c with defers := c.defers ++ [] } : Act)) = Q := by
    funext e b v
    simp only [List.append_nil]
    exact propext ⟨fun ⟨c, q, e⟩ => by cases e; exact q, fun q => ⟨b, q, rfl⟩⟩
  have e2 : ({ a with defers := a.defers ++ [] } : Act) = a := by simp
  rw [e, e2] at h2
  exact h2
theorem swr_reg {id : Nat} {ops : Array Oper} {ps : List PS} (ok : okR n ops = true) (nd : noDef ops = true) (e : prepl ops ops.toList = some (eraS ps)) (s : psteps P L false (Q .normal) ps σ h) : SWR P n l m (.region id ops false) Q σ h := fun w0 h0 a w r => by
  have h1 := psteps_sound (Q := fun e a' w' => e = .normal ∧ ∃ σ' h', Rl w0 h0 n σ' h' a' w' ∧ Q .normal σ' h') ok (fun σ' h' a' w' q1 q2 => ⟨rfl, σ', h', q2, q1⟩) ps ops.toList 0 (by simp) e σ h a w r s
  rw [List.drop_zero] at h1
  have h2 := ops_round (l := l) (m := m) nd (fun a w q => by cases q.1) h1
  refine wpIn_mono (wpIn_region h2) ?_
  rintro e a' w' ⟨rfl, σ', h', q1, q2⟩
  exact ⟨σ', h', q1, q2⟩
theorem swr_draw {id : Nat} {ops : Array Oper} (hm : P.follows .mixedOrders = true) (ok : okR n ops = true) (nd : noDef ops = true) (od : okDraw L ops = true) (s : popsD P L ops (Q .normal) ops.toList σ h) : SWR P n l m (.region id ops true) Q σ h := fun w0 h0 a w r => by
  have hun : un_ ops (Array.replicate ops.size false) = List.range ops.size := by
    rw [un_, List.filter_eq_self]
    intro i hi
    have : i < ops.size := by simpa using hi
    simp [this]
  have ht := tD_pops (P := P) (L := L) (ops := ops) ops.toList 0 (by simp) σ h s
  have hcl : Cl ops (Array.replicate ops.size false) := fun j o hj hjl => by
    exfalso
    have : j < ops.size := (Array.getElem?_eq_some_iff.1 hj).1
    simp [this] at hjl
  have ha := any_of_text od ops.size (Array.replicate ops.size false) σ h (by simp) hcl (by rw [hun]; simp) (by rw [hun]; simpa using ht)
  have r' : Rl w0 h0 n σ h a { w with drawn := w.drawn + 1 } :=
    ⟨r.size, r.defers, fun t ht => VR.step (St.drew w h).kp (Nat.le_refl _) _ (r.slots t ht), r.heap.drew, r.st.trans (St.drew w h)⟩
  have h4 := any_sound (Q := fun e a' w' => e = .normal ∧ ∃ σ' h', Rl w0 h0 n σ' h' a' w' ∧ Q .normal σ' h') ok (fun σ' h' a' w' q1 q2 => ⟨rfl, σ', h', q2, q1⟩) _ _ σ h a _ r' ha
  refine wpIn_mono (wpIn_region_draw (Q := fun e a' w' => e = .normal ∧ ∃ σ' h', Rl w0 h0 n σ' h' a' w' ∧ Q .normal σ' h') fun t => ?_) ?_
  · simp only [Region.schedule, hm, Bool.true_or, if_true]
    exact ops_round nd (fun a w q => by cases q.1) (wpAny_sound ops.size t _ a _ h4)
  · rintro e a' w' ⟨rfl, σ', h', q1, q2⟩
    exact ⟨σ', h', q1, q2⟩
theorem pwr_sound (hm : P.follows .mixedOrders = true) : ∀ (c : Code) (p : PC) (Q : Exit → Sl → Heap → Prop) (σ : Sl) (h : Heap), rok c = true → strip n L c = some p.era → pwp P L p Q σ h → SWR P n l m c Q σ h := by
  intro c
  induction c with
  | skip => intro p Q σ h _ e hp; simp only [strip, Option.some.injEq] at e; cases p <;> simp [PC.era] at e; exact fun w0 h0 a w r => wpIn_skip ⟨σ, h, r, hp⟩
  | exit id => intro p Q σ h _ e hp; simp only [strip, Option.some.injEq] at e; cases p <;> simp [PC.era] at e; subst e; exact fun w0 h0 a w r => wpIn_exit ⟨σ, h, r, hp⟩
  | region id ops dr =>
    intro p Q σ h hr e hp
    simp only [rok] at hr
    simp only [strip] at e
    split at e
    · rename_i ok
      simp only [Bool.and_eq_true, Bool.or_eq_true, Bool.not_eq_true'] at ok
      cases hl : prepl ops ops.toList with
      | none => rw [hl] at e; cases e
      | some l' =>
        rw [hl] at e
        simp only [Option.map_some, Option.some.injEq] at e
        cases p <;> simp only [PC.era, PC.reg.injEq, reduceCtorEq] at e
        rename_i dr' l
        obtain ⟨rfl, rfl⟩ := e
        cases dr with
        | false => exact swr_reg ok.1 hr hl hp
        | true => exact swr_draw hm ok.1 hr (ok.2.resolve_left (by simp)) (psteps_popsD _ _ _ _ hl hp)
    · cases e
  | seq a b iha ihb =>
    intro p Q σ h hr e hp
    simp only [rok, Bool.and_eq_true] at hr
    simp only [strip] at e
    split at e
    · rename_i x y hx hy
      simp only [Option.some.injEq] at e
      cases p <;> simp only [PC.era, PC.seq.injEq, reduceCtorEq] at e
      obtain ⟨rfl, rfl⟩ := e
      exact swr_seq (SWR.mono (fun e σ h q => by cases e <;> first | exact q | exact ihb _ Q σ h hr.2 hy q) (iha _ _ σ h hr.1 hx hp))
    · cases e
  | cond c a b iha ihb =>
    intro p Q σ h hr e hp
    simp only [rok, Bool.and_eq_true] at hr
    simp only [strip] at e
    split at e
    · rename_i ok
      split at e
      · rename_i x y hx hy
        simp only [Option.some.injEq] at e
        cases p <;> simp only [PC.era, PC.cond.injEq, reduceCtorEq] at e
        obtain ⟨rfl, rfl, rfl⟩ := e
        simp only [pwp] at hp
        split at hp
        · rename_i t ht
          refine swr_cond ok ht ?_
          cases t with
          | true => exact iha _ Q σ h hr.1 hx hp
          | false => exact ihb _ Q σ h hr.2 hy hp
        · rename_i ht
          exact swr_condA ok ht (iha _ Q σ h hr.1 hx hp.1) (ihb _ Q σ h hr.2 hy hp.2)
        · exact hp.elim
      · cases e
    · cases e
  | block id a ih =>
    intro p Q σ h hr e hp
    simp only [rok] at hr
    simp only [strip] at e
    cases hx : strip n L a with
    | none => rw [hx] at e; cases e
    | some x =>
      rw [hx] at e
      simp only [Option.map_some, Option.some.injEq] at e
      cases p <;> simp only [PC.era, PC.block.injEq, reduceCtorEq] at e
      obtain ⟨rfl, rfl⟩ := e
      exact swr_block (ih _ _ σ h hr hx hp)
  | loop a ih =>
    intro p Q σ h hr e hp
    simp only [rok] at hr
    simp only [strip] at e
    cases hx : strip n L a with
    | none => rw [hx] at e; cases e
    | some x =>
      rw [hx] at e
      simp only [Option.map_some, Option.some.injEq] at e
      cases p <;> simp only [PC.era, PC.loop.injEq, reduceCtorEq] at e
      subst e
      obtain ⟨I, k, h1, h2⟩ := hp
      exact swr_loop I k h1 fun k σ h hi => ih _ _ σ h hr hx (h2 k σ h hi)
  | _ => intro p Q σ h hr e hp; simp [rok] at hr
end
/-! ### A range over a function -/
def oldS (σ : Sl) : Sl := fun t => (σ t).old
/-- The loop's variables as a round finds them. -/
def setPs : List (Tmp × PV) → Sl → Sl
  | [], σ => σ
  | (p, v) :: l, σ => setPs l (put σ (some p) v)
/-- What an iterator hands to the rounds, one behind the other: it leaves the world as the rounds leave it. -/
def Gives (P : Program) (gf : FuncId) (lb : Array Value) (encs : Nat → Array Value) (N : Nat) (w : World) (h : Heap) : Prop :=
  ∀ (l : Nat) (J : Nat → World → Prop) (W : World), KpD w h w W →
    (∀ i, i < N → ∀ W1, J i W1 → YieldAt Fence.wide 1 P l (encs i) W1 fun e W' => e = .returned (.bool true) ∧ J (i + 1) W' ∧ KpD w h W1 W') → J 0 W →
    CallsIn Fence.wide 2 P gf (#[.func (.yield l) #[] #[]] ++ lb) W fun e W' => (∃ v, e = .returned v) ∧ J N W'
/-- An iterator over values that are told. -/
def IterP (P : Program) (gf : FuncId) (caps : List PV) (h : Heap) (xs : List (List PV)) : Prop :=
  ∀ (w : World) (lb : Array Value), WR w h 0 → TR w h w.heap.size caps lb.toList → ∃ encs : Nat → Array Value, (∀ i, i < xs.length → TR w h 0 (xs.getD i []) (encs i).toList) ∧ Gives P gf lb encs xs.length w h
section
variable {P : Program} {n : Nat} {L : List Nat} {σ : Sl} {h : Heap} {w0 : World} {h0 : Heap} {a : Act} {w : World}
theorem Rl.rebase (r : Rl w0 h0 n σ h a w) : Rl w h n (oldS σ) h { tmps := a.tmps, defers := [] } w :=
  ⟨r.size, rfl, fun t ht => VR.old _ (r.slots t ht), r.heap, St.refl w h⟩
theorem rl_setPs : ∀ (ps : List (Tmp × PV)) (vs : List Value) (σ : Sl) (a : Act), Rl w h n σ h a w → (∀ p ∈ ps, p.1 < n) → TR w h w.heap.size (ps.map (·.2)) vs →
    Rl w h n (setPs ps σ) h { tmps := ((ps.map (·.1)).zip vs).foldl (fun t (p : Tmp × Value) => t.setIfInBounds p.1 p.2) a.tmps, defers := [] } w
  | [], vs, σ, a, r, _, ht => by
    simp only [List.map_nil, List.zip_nil_left, List.foldl_nil, setPs]
    exact ⟨r.size, rfl, r.slots, r.heap, r.st⟩
  | (p, v) :: ps, vs, σ, a, r, hp, ht => by
    simp only [List.map_cons, TR] at ht
    obtain ⟨c, vs', rfl, q1, q2⟩ := ht
    simp only [List.map_cons, List.zip_cons_cons, List.foldl_cons, setPs]
    have hlt := hp _ (List.mem_cons_self)
    refine rl_setPs ps vs' (put σ (some p) v) { tmps := a.tmps.setIfInBounds p c, defers := [] } ⟨by simp [r.size], rfl, fun t ht => ?_, r.heap, r.st⟩ (fun q hq => hp q (List.mem_cons_of_mem _ hq)) q2
    by_cases e : t = p
    · subst e
      have : (a.tmps.setIfInBounds t c).getD t undef = c := by simp [r.size, hlt]
      rw [this]
      simp only [put, if_pos]
      exact q1
    · have : (a.tmps.setIfInBounds p c).getD t undef = a.tmps.getD t undef := by simp [Array.getElem?_setIfInBounds_ne (Ne.symm e)]
      rw [this]
      simp only [put, if_neg e]
      exact r.slots t ht
/-- The loop's record. -/
def recL (fn : FuncId) (tmps : Array Value) (ps : Array Tmp) (assign body : Code) (D : Nat) (st : LoopState) : Loop := { state := st, pending := none, fn, tmps, params := ps, assign, body, defers := D }
/-- What is true between two rounds. -/
def RI (w : World) (h : Heap) (D : Nat) (R : LoopState → Loop) (J : Heap → Prop) (W : World) : Prop :=
  (∃ h', St w h W h' ∧ WR W h' 0 ∧ J h') ∧ W.heap[D + 1]? = some (.loop (R .ready)) ∧ W.heap[D]? = some (.deferred (some []))
theorem put_row {l : Nat} {o : Obj} {W : World} (h : W.heap[l]? = some o) (hc : o.isCells = false) : ∀ r, some l = some r → ∃ o : Obj, W.heap[r]? = some o ∧ o.isCells = false := fun r e => by cases e; exact ⟨o, h, hc⟩
theorem range_in (hm : P.follows .mixedOrders = true) (r : Rl w0 h0 n σ h a w) {g : Operand} {ps : Array Tmp} {assign body : Code} {pa pb : PC} {gf : FuncId} {caps : List PV} (okg : okOp n g = true) (hps : ∀ p ∈ ps.toList, p < n) (eg : ev σ g = .fn gf [] caps)
    (hent : ∀ args w, (callFunc gf args).run P w = .ok (.enter gf args) w) (sa : strip n L assign = some pa.era) (sb : strip n L body = some pb.era) (ra : rok assign = true) (rb : rok body = true)
    (xs : List (List PV)) (hxs : ∀ i, i < xs.length → (xs.getD i []).length = ps.size) (it : IterP P gf (olds caps) h xs) (J : Nat → Heap → Prop) (j0 : J 0 h)
    (step : ∀ i, i < xs.length → ∀ h1, J i h1 → pwp P L pa (fun e σ2 h2 => e = .normal ∧ pwp P L pb (fun e σ3 h3 => e = .normal ∧ J (i + 1) h3) (oldS σ2) h2) (setPs (ps.toList.zip (olds (xs.getD i []))) (oldS σ)) h1)
    {Q : Exit → Act → World → Prop}
    (done : ∀ W h', J xs.length h' → St w h W h' → WR W h' 0 → W.heap[w.heap.size]? = some (.deferred (some [])) → Q .normal { a with defers := { target := .collected w.heap.size, args := #[] } :: a.defers } W) :
    (Code.rangeFunc g ps assign body).wpIn Fence.wide 3 P Q a w := by
  have hv := ev_sound r okg
  rw [eg] at hv
  simp only [VR] at hv
  obtain ⟨fs, lb, hfn, q1, q2⟩ := hv
  simp only [TR] at q1
  have hfs : fs = #[] := Array.toList_inj.1 (by simpa using q1)
  subst hfs
  obtain ⟨encs, henc, hgive⟩ := it w lb r.heap (TR.olds caps q2)
  have rr := r.rebase
  refine wpIn_rangeFunc fun fn _ => ?_
  obtain ⟨R, hR⟩ : ∃ R, R = recL fn a.tmps ps assign body w.heap.size := ⟨_, rfl⟩
  obtain ⟨W1, hW1⟩ : ∃ W1, (w.alloc (.deferred (some []))).alloc (.loop (R .ready)) = W1 := ⟨_, rfl⟩
  have hL1 : W1.heap[w.heap.size + 1]? = some (.loop (R .ready)) := by
    rw [← hW1]; have := World.alloc_heap_new (w.alloc (.deferred (some []))) (.loop (R .ready)); rwa [World.size_alloc] at this
  have hK1 : W1.heap[w.heap.size]? = some (.deferred (some [])) := by
    rw [← hW1]; exact (Below.heap_alloc _ _ _ (by simp)).trans (World.alloc_heap_new w _)
  have st1 : St w h W1 h := by rw [← hW1]; exact (St.alloc w h h _ fun _ _ => rfl).trans (St.alloc _ h h _ fun _ _ => rfl)
  have wr1 : WR W1 h 0 := by rw [← hW1]; exact (r.heap.alloc _).alloc _
  refine ⟨w.heap.size + 1, [{ target := .collected w.heap.size, args := #[] }], W1, { target := .fn (.func gf) lb, args := #[.func (.yield (w.heap.size + 1)) #[] #[]] }, W1, gf, #[.func (.yield (w.heap.size + 1)) #[] #[]] ++ lb, W1, ?_, ?_, fun _ _ => trivial, ?_, fun _ => by omega, ?_⟩
  · rw [← hW1, hR]; exact run_enterLoop_outer _ _ _ _ _
  · simp only [resolve, hfn]
    simp [go_sem]
  · simp [invoke, go_sem, hent]
  · refine (hgive (w.heap.size + 1) (fun i W => RI w h w.heap.size R (J i) W) W1 (KpD.st (St.refl w h) st1) ?_ ⟨⟨h, st1, wr1, j0⟩, hL1, hK1⟩).mono ?_
    · -- one round
      rintro i hi W ⟨⟨h', st, wr, hj⟩, hl, hk⟩
      have hlt : w.heap.size + 1 < W.heap.size := (Array.getElem?_eq_some_iff.1 hl).1
      have hsz : (encs i).size = ps.size := by
        have := (henc i hi).length
        rw [hxs i hi] at this
        simpa using this.symm
      have hy := run_yield (P := P) (args := encs i) hl (by rw [hR]; exact hsz)
      rw [hR] at hy
      refine ⟨fn, _, assign, body, hy, roundIn_of_wpIn trivial ?_⟩
      have rW : Rl W h' n (oldS σ) h' { tmps := a.tmps, defers := [] } W := ⟨r.size, rfl, fun t ht => VR.old _ (VR.step (h' := h') (N' := 0) st.kp (Nat.zero_le _) _ (r.slots t ht)), wr, St.refl W h'⟩
      have hol : (olds (xs.getD i [])).length = ps.size := by rw [olds_eq, List.length_map]; exact hxs i hi
      have rS := rl_setPs (ps.toList.zip (olds (xs.getD i []))) (encs i).toList (oldS σ) _ rW (fun p hp => hps _ (List.of_mem_zip hp).1) (by
        rw [List.map_snd_zip (by rw [hol]; simp)]
        exact TR.olds _ (TR.step st.kp (Nat.le_refl 0) _ (henc i hi)))
      rw [List.map_fst_zip (by rw [hol]; simp)] at rS
      have hfold : Array.foldl (fun (tmps : Array Value) (x : Tmp × Value) => match x with | (t, a) => tmps.setIfInBounds t a) a.tmps (ps.zip (encs i)) = (ps.toList.zip (encs i).toList).foldl (fun t (p : Tmp × Value) => t.setIfInBounds p.1 p.2) a.tmps := by
        rw [← Array.foldl_toList, Array.toList_zip]
      rw [← hfold] at rS
      refine wpIn_mono (pwr_sound hm assign pa _ _ _ ra sa (step i hi h' hj) _ _ _ _ rS) ?_
      rintro e a1 W3 ⟨σ2, h2, r2, rfl, hp⟩
      have hl3 := keeps_st wr r2.st hl rfl
      have hk3 := keeps_st wr r2.st hk rfl
      have hb := run_beginRound (P := P) hl3 (by rw [hR]; rfl)
      obtain ⟨W4, hW4⟩ : ∃ W4, W3.putObj (w.heap.size + 1) (.loop { R .ready with state := .busy }) = W4 := ⟨_, rfl⟩
      rw [hW4] at hb
      refine ⟨W4, hb, ?_⟩
      have hlt3 : w.heap.size + 1 < W3.heap.size := (Array.getElem?_eq_some_iff.1 hl3).1
      have g4 : W3.grownBy W4 (some (w.heap.size + 1)) := by rw [← hW4]; exact grownBy_putObj' _ _ _
      have wr4 := r2.heap.grown g4 (put_row hl3 rfl)
      have st4 : St w h W4 h2 := (st.trans r2.st).grown g4 fun r e => by cases e; omega
      have hl4 : W4.heap[w.heap.size + 1]? = some (.loop { R .ready with state := .busy }) := by rw [← hW4]; exact World.putObj_heap_same hlt3
      have hk4 : W4.heap[w.heap.size]? = some (.deferred (some [])) := by rw [← hW4]; exact (World.putObj_heap_other (by omega)).trans hk3
      have r4 : Rl W4 h2 n (oldS σ2) h2 a1 W4 := ⟨r2.size, r2.defers, fun t ht => VR.old _ (VR.stepN (N' := 0) (Kn.grown g4 (put_row hl3 rfl)) (Nat.zero_le _) _ (r2.slots t ht)), wr4, St.refl _ _⟩
      refine wpIn_mono (pwr_sound hm body pb _ _ _ rb sb hp _ _ _ _ r4) ?_
      rintro e a3 W5 ⟨σ3, h3, r5, rfl, hj3⟩
      have hl5 := keeps_st wr4 r5.st hl4 rfl
      have hk5 := keeps_st wr4 r5.st hk4 rfl
      have hlt5 : w.heap.size + 1 < W5.heap.size := (Array.getElem?_eq_some_iff.1 hl5).1
      have he := run_endRound (P := P) none hl5
      obtain ⟨W6, hW6⟩ : ∃ W6, W5.putObj (w.heap.size + 1) (.loop (R .ready)) = W6 := ⟨_, rfl⟩
      have g6 : W5.grownBy W6 (some (w.heap.size + 1)) := by rw [← hW6]; exact grownBy_putObj' _ _ _
      have e6 : ({ { R .ready with state := .busy } with state := if (none : Option Code).isNone then .ready else .done, pending := none } : Loop) = R .ready := by rw [hR]; rfl
      rw [e6, hW6] at he
      refine ⟨_, _, he, rfl, ⟨⟨h3, (st4.trans r5.st).grown g6 fun r e => by cases e; omega, r5.heap.grown g6 (put_row hl5 rfl), hj3⟩, ?_, ?_⟩, ?_⟩
      · rw [← hW6]; exact World.putObj_heap_same hlt5
      · rw [← hW6]; exact (World.putObj_heap_other (by omega)).trans hk5
      · refine ((KpD.st st r2.st).trans ?_).trans ((KpD.st st4 r5.st).trans ?_)
        · rw [← hW4]; exact KpD.put w h W3 _ (by omega)
        · rw [← hW6]; exact KpD.put w h W5 _ (by omega)
    · rintro e W2 ⟨⟨v, rfl⟩, ⟨h', st, wr, hj⟩, hl, hk⟩
      refine ⟨none, _, by have := run_endLoop (P := P) hl (by rw [hR]; simp [recL]); rw [hR] at this; exact this, ?_⟩
      have hg : W2.grownBy (W2.putObj (w.heap.size + 1) (.loop { R .ready with state := .exhausted })) (some (w.heap.size + 1)) := grownBy_putObj' _ _ _
      rw [hR] at hg
      exact done _ h' hj (st.grown hg fun r e => by cases e; omega) (wr.grown hg (put_row hl rfl)) ((World.putObj_heap_other (by omega)).trans hk)
theorem rl_enter {fn : Func} {args : List PV} {cargs : Array Value} (hw : WR w h 0) (ha : TR w h 0 args cargs.toList) (hn : args.length + (fn.ntmps - args.length) = n) : Rl w h n (slots0 (olds args)) h { tmps := cargs ++ Array.replicate (fn.ntmps - cargs.size) undef, defers := [] } w := by
  have hl : args.length = cargs.size := by have := ha.length; simpa using this
  have ho := TR.olds (N' := w.heap.size) args ha
  refine ⟨by simp; omega, rfl, fun t ht => ?_, hw, St.refl w h⟩
  unfold slots0
  by_cases e : t < cargs.size
  · have hlt : t < (olds args).length := by rw [olds_eq]; simp; omega
    obtain ⟨v, q1, q2⟩ := ho.get t (List.getElem?_eq_getElem hlt)
    have e1 : (olds args).getD t .undef = (olds args)[t] := by simp [List.getD, hlt]
    rw [e1]
    have q1' : cargs[t]? = some v := by simpa using q1
    have e2 : (cargs ++ Array.replicate (fn.ntmps - cargs.size) undef).getD t undef = v := by
      simp [Array.getElem?_append_left e, q1']
    simp only [e2]
    exact q2
  · have hle : (olds args).length ≤ t := by rw [olds_eq]; simp; omega
    have e1 : (olds args).getD t .undef = .undef := by simp [List.getD, List.getElem?_eq_none hle]
    rw [e1]
    simp only [VR]
theorem pwp_wide (hm : P.follows .mixedOrders = true) {c : Code} {p : PC} {Q : Exit → Sl → Heap → Prop} (e : strip n L c = some p.era) (hp : pwp P L p Q σ h) (r : Rl w0 h0 n σ h a w) : c.wpIn Fence.wide 3 P (fun e a' w' => ∃ σ' h', Rl w0 h0 n σ' h' a' w' ∧ Q e σ' h') a w :=
  wpIn_wide.2 (pwp_sound hm c p Q σ h e hp w0 h0 a w r)
/-- What such a function's walk owes where the loop begins. -/
def Ranges (P : Program) (L : List Nat) (g : Operand) (ps : Array Tmp) (pa pb pR : PC) (Q : Sl → Heap → Prop) (σ : Sl) (h : Heap) : Prop :=
  ∃ (gf : FuncId) (caps : List PV) (xs : List (List PV)) (J : Nat → Heap → Prop), ev σ g = .fn gf [] caps ∧ (∀ args w, (callFunc gf args).run P w = .ok (.enter gf args) w) ∧ (∀ i, i < xs.length → (xs.getD i []).length = ps.size) ∧ IterP P gf (olds caps) h xs ∧ J 0 h ∧
    (∀ i, i < xs.length → ∀ h1, J i h1 → pwp P L pa (fun e σ2 h2 => e = .normal ∧ pwp P L pb (fun e σ3 h3 => e = .normal ∧ J (i + 1) h3) (oldS σ2) h2) (setPs (ps.toList.zip (olds (xs.getD i []))) (oldS σ)) h1) ∧
    ∀ h2, J xs.length h2 → pwp P L pR (fun e σ3 h3 => e = .normal ∧ Q σ3 h3) (oldS σ) h2
/-- A function that holds a range over a function: behind it a region, and the end. -/
theorem can_of_range {f : FuncId} {fn : Func} {A B C assign body : Code} {bk id : Nat} {ops : Array Oper} {g : Operand} {ps : Array Tmp} {pA pB pC pa pb : PC} {lR : List PS} {args : List PV} {K : PV → Heap → Prop} (hm : P.follows .mixedOrders = true) (hf : P.funcs[f]? = some fn)
    (hname : (fn.name == "runtime.NumGoroutine") = false) (hb : fn.body = some (.seq A (.seq B (.seq (.seq C (.block bk (.rangeFunc g ps assign body))) (.seq (.region id ops false) .ret))))) (hn : args.length + (fn.ntmps - args.length) = n) (hr : fn.results.toList.all (okRes n) = true)
    (sA : strip n L A = some pA.era) (sB : strip n L B = some pB.era) (sC : strip n L C = some pC.era) (okg : okOp n g = true) (hps : ps.toList.all (fun p => decide (p < n)) = true) (sa : strip n L assign = some pa.era) (sb : strip n L body = some pb.era) (ra : rok assign = true) (rb : rok body = true)
    (okR' : okR n ops = true) (nd : noDef ops = true) (sR : prepl ops ops.toList = some (eraS lR))
    (s : pwp P L (.seq pA (.seq pB pC)) (fun e σ h1 => e = .normal ∧ Ranges P L g ps pa pb (.reg false lR) (fin P fn.results.toList h K .ret) σ h1) (slots0 (olds args)) h) : CanP P f args h K := by
  refine ⟨⟨fn, hf, hname, by rw [hb]; rfl⟩, fun w cargs hw ha => ?_⟩
  have r := rl_enter (fn := fn) hw ha hn
  refine callsIn_wide.1 (callsIn_of_wp_marks (F := Fence.wide) (n := 3) hf hb trivial ?_ rfl)
  simp only [pwp] at s
  refine wpIn_seq (wpIn_mono (pwp_wide hm sA s r) ?_)
  rintro e a1 w1 ⟨σ1, h1, r1, q1⟩
  cases e <;> first | (cases q1.1; done) | skip
  refine wpIn_seq (wpIn_mono (pwp_wide hm sB q1 r1) ?_)
  rintro e a2 w2 ⟨σ2, h2, r2, q2⟩
  cases e <;> first | (cases q2.1; done) | skip
  refine wpIn_seq (wpIn_seq (wpIn_mono (pwp_wide hm sC q2 r2) ?_))
  rintro e a3 w3 ⟨σ3, h3, r3, rfl, gf, caps, xs, J, eg, hent, hxs, it, j0, step, post⟩
  refine wpIn_block (range_in hm r3 okg (fun p hp => by simpa using List.all_eq_true.1 hps p hp) eg hent sa sb ra rb xs hxs it J j0 step ?_)
  intro W h' hj st wr hk
  show (Code.seq (.region id ops false) .ret).wpIn Fence.wide 3 P _ _ _
  have rW : Rl W h' n (oldS σ3) h' a3 W := ⟨r3.size, r3.defers, fun t ht => VR.old _ (VR.step st.kp (Nat.le_refl _) _ (r3.slots t ht)), wr, St.refl W h'⟩
  have hp := post h' hj
  have h4 := psteps_sound (Q := fun e a' w' => e = .normal ∧ ∃ σ1 h1, Rl W h' n σ1 h1 a' w' ∧ fin P fn.results.toList h K .ret σ1 h1) okR' (fun σ' h' a' w' q1 q2 => ⟨rfl, σ', h', q2, q1.2⟩) lR ops.toList 0 (by simp) sR (oldS σ3) h' a3 W rW hp
  rw [List.drop_zero] at h4
  have h5 := ops_in (m := 3) none [{ target := .collected w3.heap.size, args := #[] }] nd (fun a w q => by cases q.1) _ _ _ h4
  have e5 : ({ a3 with defers := a3.defers ++ [{ target := .collected w3.heap.size, args := #[] }] } : Act) = { a3 with defers := { target := .collected w3.heap.size, args := #[] } :: a3.defers } := by rw [r3.defers]; rfl
  rw [e5] at h5
  refine wpIn_seq (wpIn_mono (wpIn_region h5) ?_)
  rintro e a4 w4 ⟨c, ⟨rfl, σ4, h6, r4, v, ev', v2, h7, wk, kk⟩, rfl⟩
  refine wpIn_ret ?_
  show LeavesInM Fence.wide 3 P fn c.tmps _ (c.defers ++ _) .returning w4
  rw [r4.defers]
  have hk4 : w4.heap[w3.heap.size]? = some (.deferred (some [])) := keeps_st wr r4.st hk rfl
  obtain ⟨W5, hW5⟩ : ∃ W5, w4.putObj w3.heap.size (.deferred none) = W5 := ⟨_, rfl⟩
  have g5 : w4.grownBy W5 (some w3.heap.size) := by rw [← hW5]; exact grownBy_putObj' _ _ _
  have st3 : St w h w3 h3 := r3.st
  have st5 : St w h W5 h6 := ((st3.trans st).trans r4.st).grown g5 fun r e => by cases e; exact st3.size
  have r5 : Rl w h n σ4 h6 c W5 := ⟨r4.size, r4.defers, fun t ht => VR.stepN (Kn.grown g5 (put_row hk4 rfl)) (Nat.le_trans st3.size st.size) _ (r4.slots t ht), r4.heap.grown g5 (put_row hk4 rfl), st5⟩
  obtain ⟨cv, q1, q2⟩ := ress_sound r5 (fun x hx => List.all_eq_true.1 hr x hx) ev'
  have ht := run_takeDeferred (P := P) hk4
  rw [hW5] at ht
  refine ⟨by simp, .inl ⟨_, W5, rfl, ht, ?_⟩⟩
  exact ⟨cv, q1, v2, cv, h7, rfl, st5.trans (St.kill W5 h6 h7 wk.1), r5.heap.kill wk.1, wk.2 w W5 cv st5 r5.heap q2, kk⟩
/-- The same, with one region less ahead. -/
theorem can_of_range1 {f : FuncId} {fn : Func} {A C assign body : Code} {bk id : Nat} {ops : Array Oper} {g : Operand} {ps : Array Tmp} {pA pC pa pb : PC} {lR : List PS} {args : List PV} {K : PV → Heap → Prop} (hm : P.follows .mixedOrders = true) (hf : P.funcs[f]? = some fn)
    (hname : (fn.name == "runtime.NumGoroutine") = false) (hb : fn.body = some (.seq A (.seq (.seq C (.block bk (.rangeFunc g ps assign body))) (.seq (.region id ops false) .ret)))) (hn : args.length + (fn.ntmps - args.length) = n) (hr : fn.results.toList.all (okRes n) = true)
    (sA : strip n L A = some pA.era) (sC : strip n L C = some pC.era) (okg : okOp n g = true) (hps : ps.toList.all (fun p => decide (p < n)) = true) (sa : strip n L assign = some pa.era) (sb : strip n L body = some pb.era) (ra : rok assign = true) (rb : rok body = true)
    (okR' : okR n ops = true) (nd : noDef ops = true) (sR : prepl ops ops.toList = some (eraS lR))
    (s : pwp P L (.seq pA pC) (fun e σ h1 => e = .normal ∧ Ranges P L g ps pa pb (.reg false lR) (fin P fn.results.toList h K .ret) σ h1) (slots0 (olds args)) h) : CanP P f args h K := by
  refine ⟨⟨fn, hf, hname, by rw [hb]; rfl⟩, fun w cargs hw ha => ?_⟩
  have r := rl_enter (fn := fn) hw ha hn
  refine callsIn_wide.1 (callsIn_of_wp_marks (F := Fence.wide) (n := 3) hf hb trivial ?_ rfl)
  simp only [pwp] at s
  refine wpIn_seq (wpIn_mono (pwp_wide hm sA s r) ?_)
  rintro e a1 w1 ⟨σ1, h1, r1, q1⟩
  cases e <;> first | (cases q1.1; done) | skip
  refine wpIn_seq (wpIn_seq (wpIn_mono (pwp_wide hm sC q1 r1) ?_))
  rintro e a3 w3 ⟨σ3, h3, r3, rfl, gf, caps, xs, J, eg, hent, hxs, it, j0, step, post⟩
  refine wpIn_block (range_in hm r3 okg (fun p hp => by simpa using List.all_eq_true.1 hps p hp) eg hent sa sb ra rb xs hxs it J j0 step ?_)
  intro W h' hj st wr hk
  show (Code.seq (.region id ops false) .ret).wpIn Fence.wide 3 P _ _ _
  have rW : Rl W h' n (oldS σ3) h' a3 W := ⟨r3.size, r3.defers, fun t ht => VR.old _ (VR.step st.kp (Nat.le_refl _) _ (r3.slots t ht)), wr, St.refl W h'⟩
  have hp := post h' hj
  have h4 := psteps_sound (Q := fun e a' w' => e = .normal ∧ ∃ σ1 h1, Rl W h' n σ1 h1 a' w' ∧ fin P fn.results.toList h K .ret σ1 h1) okR' (fun σ' h' a' w' q1 q2 => ⟨rfl, σ', h', q2, q1.2⟩) lR ops.toList 0 (by simp) sR (oldS σ3) h' a3 W rW hp
  rw [List.drop_zero] at h4
  have h5 := ops_in (m := 3) none [{ target := .collected w3.heap.size, args := #[] }] nd (fun a w q => by cases q.1) _ _ _ h4
  have e5 : ({ a3 with defers := a3.defers ++ [{ target := .collected w3.heap.size, args := #[] }] } : Act) = { a3 with defers := { target := .collected w3.heap.size, args := #[] } :: a3.defers } := by rw [r3.defers]; rfl
  rw [e5] at h5
  refine wpIn_seq (wpIn_mono (wpIn_region h5) ?_)
  rintro e a4 w4 ⟨c, ⟨rfl, σ4, h6, r4, v, ev', v2, h7, wk, kk⟩, rfl⟩
  refine wpIn_ret ?_
  show LeavesInM Fence.wide 3 P fn c.tmps _ (c.defers ++ _) .returning w4
  rw [r4.defers]
  have hk4 : w4.heap[w3.heap.size]? = some (.deferred (some [])) := keeps_st wr r4.st hk rfl
  obtain ⟨W5, hW5⟩ : ∃ W5, w4.putObj w3.heap.size (.deferred none) = W5 := ⟨_, rfl⟩
  have g5 : w4.grownBy W5 (some w3.heap.size) := by rw [← hW5]; exact grownBy_putObj' _ _ _
  have st3 : St w h w3 h3 := r3.st
  have st5 : St w h W5 h6 := ((st3.trans st).trans r4.st).grown g5 fun r e => by cases e; exact st3.size
  have r5 : Rl w h n σ4 h6 c W5 := ⟨r4.size, r4.defers, fun t ht => VR.stepN (Kn.grown g5 (put_row hk4 rfl)) (Nat.le_trans st3.size st.size) _ (r4.slots t ht), r4.heap.grown g5 (put_row hk4 rfl), st5⟩
  obtain ⟨cv, q1, q2⟩ := ress_sound r5 (fun x hx => List.all_eq_true.1 hr x hx) ev'
  have ht := run_takeDeferred (P := P) hk4
  rw [hW5] at ht
  refine ⟨by simp, .inl ⟨_, W5, rfl, ht, ?_⟩⟩
  exact ⟨cv, q1, v2, cv, h7, rfl, st5.trans (St.kill W5 h6 h7 wk.1), r5.heap.kill wk.1, wk.2 w W5 cv st5 r5.heap q2, kk⟩
end
end Go.Pm

/-
  An abstract machine over pure values, part W: a live box that comes back is only read from then on, with all rows in it.
-/
namespace Go.Pm
set_option linter.unusedVariables false
set_option linter.unusedSimpArgs false

/-- A cell of a box may be told otherwise. -/
def Wc (h0 h' : Heap) (v : PV) (h2 : Heap) (u : PV) : Prop := ∀ (w0 w : World) (c : Value), St w0 h0 w h' → WR w h' 0 → VR w h' 0 v c → VR w h2 w0.heap.size u c
theorem Wc.old {h0 h' h2 : Heap} (v : PV) (l : h2.le h') : Wc h0 h' v h2 v.old := fun w0 w c s hw q =>
  VR.step (Kp.le l) (Nat.le_refl _) _ (VR.old (N' := w0.heap.size) _ q)
theorem Stk.wc {h h' : Heap} {v : PV} {E n : Nat} {cs : List PV} (a : Stk h h' v E n cs) (l : h.le h') : Wc h h' v h (.list true E n (olds cs)) := fun w0 w c s hw q => by
  refine (a.wk l).2 w0 w c s hw ?_
  rcases a with ⟨rfl, _⟩ | ⟨b, ds, rfl, _⟩
  · simpa only [VR] using q
  · simpa only [VR] using q
def WcL (h0 h' h2 : Heap) : List PV → List PV → Prop
  | [], [] => True
  | v :: vs, u :: us => Wc h0 h' v h2 u ∧ WcL h0 h' h2 vs us
  | _, _ => False
theorem WcL.cr {h0 h' h2 : Heap} {w0 w : World} (s : St w0 h0 w h') (hw : WR w h' 0) : ∀ (vs us : List PV) (cs : List Value), WcL h0 h' h2 vs us → CR w h' 0 vs cs → CR w h2 w0.heap.size us cs
  | [], [], cs, _, q => by simpa only [CR] using q
  | v :: vs, u :: us, cs, ws, q => by
    simp only [CR] at q ⊢
    obtain ⟨c, cs', rfl, h1, q1, q2⟩ := q
    exact ⟨c, cs', rfl, h1, ws.1 w0 w c s hw q1, WcL.cr s hw vs us cs' ws.2 q2⟩
  | [], u :: us, cs, ws, _ => ws.elim
  | v :: vs, [], cs, ws, _ => ws.elim
theorem Wk.box {h0 h' h2 : Heap} {b off : Nat} {cs us : List PV} (l : h2.le h') (e0 : h0.f b = none) (e : h'.f b = some cs) (e2 : h2.f b = none) (ws : WcL h0 h' h2 cs us) :
    Wk h0 h' (.ptr b off) h2 (.fptr true us off) := ⟨l, fun w0 w c s hw q => by
  simp only [VR] at q ⊢
  subst q
  obtain ⟨cells, t, hc, hcl, hcc⟩ := hw b cs e
  have hlt := hw.lt e
  exact ⟨b, 0, _, by simp, hlt, e2, fun _ => own_ge s e0 e, WcL.cr s hw _ _ _ ws hcc, Mem.live hc cs.length⟩⟩
end Go.Pm
