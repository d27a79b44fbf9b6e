/-
  An abstract machine over pure values, part B: what an alloc, a store, a draw do to the relation between the small heap and the machine's memory.
  Conditions: none.
-/
import Derived.Test.YtdllafendiaplaaPmA
import Derived.Deep.MidRow
import Derived.Deep.AppendSrc
import Derived.ArgAppend
import Derived.Laws.MakeOwn
import Derived.Laws.Build
namespace Go.Pm
set_option linter.unusedVariables false
set_option linter.unusedSimpArgs false
open Go.RowKit

theorem WR.lt {w : World} {h : Heap} {N b : Nat} {cs : List PV} (hw : WR w h N) (e : h.f b = some cs) : b < w.heap.size := by
  obtain ⟨cells, t, hb, _⟩ := hw b cs e
  exact (Array.getElem?_eq_some_iff.1 hb).1
theorem WR.free {w : World} {h : Heap} {N b : Nat} (hw : WR w h N) (hb : w.heap.size ≤ b) : h.f b = none := by
  cases e : h.f b with
  | none => rfl
  | some cs => have := hw.lt e; omega

theorem WR.nil (w : World) (N : Nat) : WR w Heap.nil N := fun b cs e => by cases e

/-- The blocks that live read as they did, or have their new cells. -/
theorem WR.step {w w' : World} {h h' : Heap} {N N' : Nat} (k : Kp w h w' h') (hN : N' ≤ N) (hw : WR w h N)
    (hs : ∀ b cs', h'.f b = some cs' → (h.f b = some cs' ∧ w'.heap[b]? = w.heap[b]?) ∨
      ∃ cells e, w'.heap[b]? = some (.cells cells e (0, 0)) ∧ cs'.length ≤ cells.size ∧ CR w' h' N' cs' (cells.toList.take cs'.length)) : WR w' h' N' := fun b cs' e => by
  rcases hs b cs' e with ⟨h1, h2⟩ | h3
  · obtain ⟨cells, t, hb, hl, hc⟩ := hw b cs' h1
    exact ⟨cells, t, by rw [h2]; exact hb, hl, CR.step k hN cs' hc⟩
  · exact h3

theorem St.drew (w : World) (h : Heap) : St w h w.drew h := ⟨rfl, rfl, rfl, Nat.le_refl _, fun _ _ _ => rfl, fun _ _ e => e, fun _ c _ fz e => ⟨c, fz, e, rfl⟩⟩
theorem WR.drew {w : World} {h : Heap} {N : Nat} (hw : WR w h N) : WR w.drew h N :=
  hw.step (St.drew w h).kp (Nat.le_refl _) fun b cs e => .inl ⟨e, rfl⟩

/-- A new block; `h'` may hold it. -/
theorem St.alloc (w : World) (h h' : Heap) (o : Obj) (hh : ∀ b, b ≠ w.heap.size → h'.f b = h.f b) : St w h (w.alloc o) h' where
  os := rfl
  tape := rfl
  output := rfl
  size := by simp
  keep b hb _ := Below.heap_alloc w o b hb
  dead b hb e := by rw [hh b (by omega)]; exact e
  shape b c e fz hb := ⟨c, fz, by rw [Below.heap_alloc w o b (Array.getElem?_eq_some_iff.1 hb).1]; exact hb, rfl⟩
theorem WR.alloc {w : World} {h : Heap} {N : Nat} (hw : WR w h N) (o : Obj) : WR (w.alloc o) h N :=
  hw.step (St.alloc w h h o fun _ _ => rfl).kp (Nat.le_refl _) fun b cs e => .inl ⟨e, Below.heap_alloc w o b (hw.lt e)⟩
theorem heap_new (w : World) (o : Obj) : (w.alloc o).heap[w.heap.size]? = some o := heap_alloc_new w o
theorem WR.alloc_live {w : World} {h : Heap} {N : Nat} (hw : WR w h N) (cells : Array Value) (t : TypeId) (cs : List PV) (hl : cs.length ≤ cells.size)
    (hc : CR w h N cs (cells.toList.take cs.length)) : WR (w.alloc (.cells cells t)) (h.set w.heap.size cs) N := by
  have k := (St.alloc w h (h.set w.heap.size cs) (.cells cells t) fun b hb => h.set_ne cs hb).kp
  refine hw.step k (Nat.le_refl _) fun b cs' e => ?_
  by_cases hb : b = w.heap.size
  · subst hb
    rw [h.set_same] at e
    cases e
    exact .inr ⟨cells, t, heap_new w _, hl, CR.step k (Nat.le_refl _) cs hc⟩
  · rw [h.set_ne cs hb] at e
    exact .inl ⟨e, Below.heap_alloc w _ b (hw.lt e)⟩

theorem Room.new (w : World) (cells : Array Value) (t : TypeId) : Room (w.alloc (.cells cells t)) w.heap.size cells.size := ⟨cells, t, (0, 0), heap_new w _, rfl⟩
theorem Mem.new (w : World) (cells : Array Value) (t : TypeId) : Mem (w.alloc (.cells cells t)) w.heap.size 0 cells.toList := fun i v hi => by
  rw [Nat.zero_add, World.cell?_alloc_new]; simpa using hi

theorem setCells_other (g : Nat) : ∀ (vs : List Value) (o : Nat) (w : World) (k : Nat), k ≠ g → (w.setCells g o vs).heap[k]? = w.heap[k]?
  | [], _, _, _, _ => rfl
  | v :: r, o, w, k, hk => (setCells_other g r (o + 1) _ k hk).trans (Below.heap_setCell w ⟨g, o, none⟩ v k hk)
theorem setCells_rest (g : Nat) : ∀ (vs : List Value) (o : Nat) (w : World), (w.setCells g o vs).os = w.os ∧ (w.setCells g o vs).tape = w.tape ∧ (w.setCells g o vs).output = w.output ∧ (w.setCells g o vs).heap.size = w.heap.size
  | [], _, _ => ⟨rfl, rfl, rfl, rfl⟩
  | v :: r, o, w => by
    obtain ⟨h1, h2, h3, h4⟩ := setCells_rest g r (o + 1) (w.setCell ⟨g, o, none⟩ v)
    exact ⟨h1, h2, h3, h4.trans (by simp)⟩
theorem setCell_block {w : World} {g : Nat} {cur : Array Value} {e : TypeId} {fz : Nat × Nat} (hb : w.heap[g]? = some (.cells cur e fz)) (o : Nat) (v : Value) :
    (w.setCell ⟨g, o, none⟩ v).heap[g]? = some (.cells (cur.setIfInBounds o v) e fz) := by
  simp [World.setCell, Array.getElem?_modify, hb]
theorem put_list {cur : List Value} {o : Nat} {v : Value} {r : List Value} (h : o < cur.length) :
    (cur.set o v).take (o + 1) ++ r ++ (cur.set o v).drop (o + 1 + r.length) = cur.take o ++ (v :: r) ++ cur.drop (o + (v :: r).length) := by
  apply List.ext_getElem?
  intro i
  simp only [List.append_assoc, List.getElem?_append, List.length_take, List.length_set, List.length_cons, List.getElem?_take, List.getElem?_drop, List.getElem?_set, List.getElem?_cons]
  repeat' split
  all_goals first | omega | (congr 1; omega) | simp_all | skip
  all_goals (congr 1; omega)
theorem setCells_block (g : Nat) (e : TypeId) (fz : Nat × Nat) : ∀ (vs : List Value) (o : Nat) (w : World) (cur : Array Value), w.heap[g]? = some (.cells cur e fz) → o + vs.length ≤ cur.size →
    ∃ cur' : Array Value, (w.setCells g o vs).heap[g]? = some (.cells cur' e fz) ∧ cur'.size = cur.size ∧ cur'.toList = cur.toList.take o ++ vs ++ cur.toList.drop (o + vs.length)
  | [], o, w, cur, hb, _ => ⟨cur, hb, rfl, by simp⟩
  | v :: r, o, w, cur, hb, hl => by
    simp only [List.length_cons] at hl
    obtain ⟨c, h1, h2, h3⟩ := setCells_block g e fz r (o + 1) (w.setCell ⟨g, o, none⟩ v) _ (setCell_block hb o v) (by simp; omega)
    refine ⟨c, h1, by rw [h2]; simp, ?_⟩
    rw [h3, Array.toList_setIfInBounds, put_list (by simpa using (by omega : o < cur.size))]

/-- A list of cells with others written over a part of it. -/
def wr (cs : List PV) (o : Nat) (new : List PV) : List PV := cs.take o ++ new ++ cs.drop (o + new.length)
theorem wr_length {cs new : List PV} {o : Nat} (h : o + new.length ≤ cs.length) : (wr cs o new).length = cs.length := by
  simp [wr]; omega
theorem wr_one {cs : List PV} {o : Nat} {v : PV} (h : o < cs.length) : wr cs o [v] = cs.set o v := by
  apply List.ext_getElem?
  intro i
  simp only [wr, List.append_assoc, List.getElem?_append, List.length_take, List.length_cons, List.length_nil, List.getElem?_take, List.getElem?_drop, List.getElem?_set, List.getElem?_cons]
  repeat' split
  all_goals first | omega | (congr 1; omega) | simp_all

/-- Cells stored into a live block, at most to the end of its memory. -/
theorem store_live {w : World} {h : Heap} {N b o : Nat} {cs cs' new : List PV} {vs : List Value} {cells : Array Value} {e : TypeId} (hw : WR w h N) (hb : h.f b = some cs)
    (hcells : w.heap[b]? = some (.cells cells e (0, 0))) (hroom : o + vs.length ≤ cells.size) (hnew : CR w h N new vs) (hcs : cs.length ≤ cells.size)
    (hold : CR w h N cs (cells.toList.take cs.length)) (ho : o ≤ cs.length) (hcs' : cs' = cs.take o ++ new ++ cs.drop (o + new.length)) :
    St w h (w.setCells b o vs) (h.set b cs') ∧ WR (w.setCells b o vs) (h.set b cs') N := by
  obtain ⟨r1, r2, r3, r4⟩ := setCells_rest b vs o w
  obtain ⟨c', q1, q2, q3⟩ := setCells_block b e (0, 0) vs o w cells hcells hroom
  have hbn : b < w.heap.size := hw.lt hb
  have hst : St w h (w.setCells b o vs) (h.set b cs') := by
    refine ⟨r1, r2, r3, Nat.le_of_eq r4.symm, fun x hx hd => ?_, fun x hx hd => ?_, fun x c t fz hx => ?_⟩
    · exact setCells_other b vs o w x fun ee => by rw [ee, hb] at hd; cases hd
    · rw [h.set_ne cs' fun ee => by rw [ee, hb] at hd; cases hd]; exact hd
    · by_cases ee : x = b
      · subst ee
        rw [hcells] at hx
        cases hx
        exact ⟨c', (0, 0), q1, q2⟩
      · exact ⟨c, fz, by rw [setCells_other b vs o w x ee]; exact hx, rfl⟩
  refine ⟨hst, hw.step hst.kp (Nat.le_refl _) fun x ds hx => ?_⟩
  by_cases ee : x = b
  · subst ee
    rw [h.set_same] at hx
    cases hx
    have hl := hnew.length
    have hlen : cs'.length = max cs.length (o + new.length) := by
      rw [hcs']; simp; omega
    have hc1 : CR w h N (cs.take o ++ new ++ cs.drop (o + new.length)) ((cells.toList.take cs.length).take o ++ vs ++ (cells.toList.take cs.length).drop (o + new.length)) :=
      ((hold.take o).append hnew).append (hold.drop _)
    refine .inr ⟨c', e, q1, by rw [q2, hlen]; omega, ?_⟩
    have : c'.toList.take cs'.length = (cells.toList.take cs.length).take o ++ vs ++ (cells.toList.take cs.length).drop (o + new.length) := by
      rw [q3, hlen]
      have hsz : cells.toList.length = cells.size := by simp
      apply List.ext_getElem?
      intro i
      simp only [List.append_assoc, List.getElem?_append, List.length_take, List.getElem?_take, List.getElem?_drop]
      repeat' split
      all_goals first | omega | rfl | (congr 1; omega) | (symm; apply List.getElem?_eq_none; omega) | (apply List.getElem?_eq_none; omega) | skip
    rw [this]
    have hc2 := CR.step hst.kp (Nat.le_refl _) _ hc1
    rw [← hcs'] at hc2
    exact hc2
  · rw [h.set_ne cs' ee] at hx
    exact .inl ⟨hx, setCells_other b vs o w x ee⟩

/-- What lives may be let go. -/
theorem St.kill (w : World) (h h' : Heap) (hh : ∀ b cs, h'.f b = some cs → h.f b = some cs) : St w h w h' :=
  ⟨rfl, rfl, rfl, Nat.le_refl _, fun _ _ _ => rfl, (fun b _ e => by
    cases e' : h'.f b with
    | none => rfl
    | some cs => rw [hh b cs e'] at e; cases e), fun _ c _ fz e => ⟨c, fz, e, rfl⟩⟩
theorem WR.kill {w : World} {h h' : Heap} {N : Nat} (hw : WR w h N) (hh : ∀ b cs, h'.f b = some cs → h.f b = some cs) : WR w h' N :=
  hw.step (St.kill w h h' hh).kp (Nat.le_refl _) fun b cs e => .inl ⟨hh b cs e, rfl⟩
end Go.Pm
